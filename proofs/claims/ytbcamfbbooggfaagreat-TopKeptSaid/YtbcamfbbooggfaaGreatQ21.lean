/- Part 21 of the proof: W1, W2. -/
import Derived.Test.YtbcamfbbooggfaaGreatQ17
import Derived.Test.YtbcamfbbooggfaaGreatQ09
import Derived.Maps.OwnSet
import Derived.Lib.SlKeysI
import Derived.BigQuiet
import Derived.Test.YtbcamfbbooggfaaGreatQ11

section
/- A disk at hand. -/
set_option linter.unusedVariables false
set_option linter.unusedSimpArgs false
namespace Go.Proofs.YtbcamfbbooggfaaGreat.F
open Go.RowKit Go.Proofs.YtbcamfbbooggfaaGreatW.PrintWords
attribute [local go_sem ↓] Go.wp_at_zero Go.wp_at_succ

/-- A sector's slice: its block, its capacity. -/
abbrev Sec := Nat × Nat
def secD (s : Sec) : DataW Unit := .agg [.lit (.int .i64 (s.1 : Nat)), .lit (.int .i64 (s.2 : Nat))]
def secV (s : Sec) : Value := .slice (some ⟨s.1, 0, none⟩) 128 s.2
/-- How a sector in the dirty map reads. -/
def rdSec : Value → Option (DataW Unit × List MemPlace)
  | .slice (some ⟨g, 0, none⟩) n c => if n = 128 then some (secD (g, c), []) else none
  | .slice none 0 0 => some (.lit (.bool false), [])
  | _ => none
theorem rdSec_mk (s : Sec) : rdSec (secV s) = some (secD s, []) := by simp [rdSec, secV]
theorem rdSec_nil : rdSec (.slice none 0 0) = some (.lit (.bool false), []) := rfl
theorem rdSec_inv {v : Value} {s : Sec} {ps : List MemPlace} (h : rdSec v = some (secD s, ps)) : v = secV s := by
  unfold rdSec at h
  split at h
  · split at h
    · rename_i g n c hn
      subst hn
      simp only [secD, Option.some.injEq, Prod.mk.injEq, DataW.agg.injEq, List.cons.injEq, DataW.lit.injEq, Lit.int.injEq, true_and, and_true] at h
      obtain ⟨⟨h1, h2⟩, _⟩ := h
      have h1 : g = s.1 := by omega
      have h2 : c = s.2 := by omega
      rw [h1, h2]
      rfl
    · cases h
  · simp [secD] at h
  · cases h
/-- What the dirty map holds. -/
def lk (m : List (Nat × Sec × List Nat)) (k : Nat) : Option (Sec × List Nat) := (m.find? (fun x => x.1 == k)).map (·.2)
def Dirt (D : DataW Unit) (m : List (Nat × Sec × List Nat)) : Prop :=
  Maps.Tidy D ∧ (m.map (·.1)).Nodup ∧ Maps.size D = m.length ∧ ∀ k : Nat, Maps.has D (.int .i64 (k : Nat)) = (lk m k).isSome ∧ ∀ s, lk m k = some s → ∀ z, D.atKey (.int .i64 (k : Nat)) z = secD s.1
def without (m : List (Nat × Sec × List Nat)) (k : Nat) : List (Nat × Sec × List Nat) := m.filter (fun x => x.1 != k)
theorem lk_without_same (m : List (Nat × Sec × List Nat)) (k : Nat) : lk (without m k) k = none := by
  unfold lk without
  rw [List.find?_filter]
  simp
theorem lk_without_other (m : List (Nat × Sec × List Nat)) (k j : Nat) (h : j ≠ k) : lk (without m k) j = lk m j := by
  unfold lk without
  rw [List.find?_filter]
  congr 1
  congr 1
  funext x
  by_cases e : x.1 = j
  · subst e; simp [h]
  · simp [e]
theorem lk_cons_same (m : List (Nat × Sec × List Nat)) (k : Nat) (s : Sec × List Nat) : lk ((k, s) :: m) k = some s := by simp [lk]
theorem lk_cons_other (m : List (Nat × Sec × List Nat)) (k j : Nat) (s : Sec × List Nat) (h : j ≠ k) : lk ((k, s) :: m) j = lk m j := by
  have : (k == j) = false := by simp; omega
  simp [lk, this]
theorem lk_mem {m : List (Nat × Sec × List Nat)} {k : Nat} {s : Sec × List Nat} (h : lk m k = some s) : (k, s) ∈ m := by
  unfold lk at h
  obtain ⟨x, hx, rfl⟩ := Option.map_eq_some_iff.1 h
  have h1 := List.mem_of_find?_eq_some hx
  have h2 := List.find?_some hx
  have h2 : x.1 = k := by simpa using h2
  rw [← h2]
  exact h1
theorem without_len (m : List (Nat × Sec × List Nat)) (k : Nat) (hn : (m.map (·.1)).Nodup) : (without m k).length + (if (lk m k).isSome then 1 else 0) = m.length := by
  induction m with
  | nil => simp [without, lk]
  | cons x m ih =>
    rw [List.map_cons, List.nodup_cons] at hn
    have ih := ih hn.2
    by_cases e : x.1 = k
    · have h1 : lk (x :: m) k = some x.2 := by simp [lk, e]
      have h2 : lk m k = none := by
        cases h : lk m k with
        | none => rfl
        | some s => exact absurd (List.mem_map.2 ⟨_, lk_mem h, e.symm⟩) hn.1
      rw [h2] at ih
      have h3 : without (x :: m) k = without m k := by simp [without, e]
      rw [h3, h1]
      simp at ih ⊢
      exact ih
    · have h1 : lk (x :: m) k = lk m k := lk_cons_other m x.1 k x.2 (Ne.symm e)
      have h3 : without (x :: m) k = x :: without m k := by simp [without, e]
      rw [h3, h1, List.length_cons, List.length_cons]
      omega
theorem without_nodup (m : List (Nat × Sec × List Nat)) (k : Nat) (hn : (m.map (·.1)).Nodup) : ((without m k).map (·.1)).Nodup := by
  have h1 : (without m k).Sublist m := List.filter_sublist
  exact (h1.map (·.1)).nodup hn
theorem lk_none_notin {m : List (Nat × Sec × List Nat)} {k : Nat} (h : lk m k = none) : k ∉ m.map (·.1) := by
  intro hm
  obtain ⟨x, hx, rfl⟩ := List.mem_map.1 hm
  unfold lk at h
  have h := Option.map_eq_none_iff.1 h
  rw [List.find?_eq_none] at h
  exact h x hx (by simp)
theorem Dirt.put {D : DataW Unit} {m : List (Nat × Sec × List Nat)} (h : Dirt D m) (k : Nat) (s : Sec × List Nat) : Dirt (D.put (.int .i64 (k : Nat)) (secD s.1)) ((k, s) :: without m k) := by
  obtain ⟨ht, hn, hs, hk⟩ := h
  have hL := without_len m k hn
  refine ⟨Maps.Tidy.put (k := .int .i64 (k : Nat)) ht trivial _, ?_, ?_, fun j => ?_⟩
  · rw [List.map_cons, List.nodup_cons]
    exact ⟨lk_none_notin (lk_without_same m k), without_nodup m k hn⟩
  · rw [Maps.size_put ht, hs, (hk k).1, List.length_cons]
    split <;> rename_i e
    · rw [if_pos e] at hL; omega
    · rw [if_neg e] at hL; omega
  · by_cases e : j = k
    · subst e
      rw [lk_cons_same]
      exact ⟨Maps.has_put_same (k := .int .i64 (j : Nat)) ht.isMap trivial _, fun s' hs' z => by cases hs'; exact Maps.atKey_put_same (k := .int .i64 (j : Nat)) ht.isMap trivial _ _⟩
    · have hne : (Lit.int .i64 (j : Nat)) ≠ .int .i64 (k : Nat) := fun h => e (by injection h with _ h; omega)
      rw [lk_cons_other _ _ _ _ e, lk_without_other _ _ _ e, Maps.has_put_other hne]
      exact ⟨(hk j).1, fun s' hs' z => by rw [Maps.atKey_put_other hne]; exact (hk j).2 s' hs' z⟩
theorem Dirt.del {D : DataW Unit} {m : List (Nat × Sec × List Nat)} (h : Dirt D m) (k : Nat) : Dirt (D.del (.int .i64 (k : Nat))) (without m k) := by
  obtain ⟨ht, hn, hs, hk⟩ := h
  have hL := without_len m k hn
  refine ⟨ht.del _, without_nodup m k hn, ?_, fun j => ?_⟩
  · have := Maps.size_del ht (k := .int .i64 (k : Nat))
    rw [(hk k).1] at this
    omega
  · by_cases e : j = k
    · subst e
      rw [lk_without_same]
      exact ⟨Maps.has_del_same, fun s' hs' => by cases hs'⟩
    · have hne : (Lit.int .i64 (j : Nat)) ≠ .int .i64 (k : Nat) := fun h => e (by injection h with _ h; omega)
      rw [lk_without_other _ _ _ e, Maps.has_del_other hne]
      exact ⟨(hk j).1, fun s' hs' z => by rw [Maps.atKey_del_other hne]; exact (hk j).2 s' hs' z⟩
theorem Dirt.nil : Dirt (.map []) [] := ⟨Maps.tidy_empty, by simp, rfl, fun k => ⟨rfl, fun s h => by simp [lk] at h⟩⟩
/-- A sector's bytes. -/
def SecAt (W : World) (s : Sec) (bs : List Nat) : Prop := RV 5 W (some ⟨s.1, 0, none⟩) 128 (bs.map (encN .u8)) ∧ bs.length = 128 ∧ 128 ≤ s.2 ∧ ∀ x ∈ bs, x < 256
theorem SecAt.move {W W' : World} {s : Sec} {bs : List Nat} (h : SecAt W s bs) (hm : ∀ (g : Nat) (cs : Array Value) (x : Nat × Nat), W.heap[g]? = some (Obj.cells cs 5 x) → W'.heap[g]? = W.heap[g]?) : SecAt W' s bs := ⟨h.1.move hm, h.2⟩
theorem SecAt.rn {W : World} {s : Sec} {bs : List Nat} (h : SecAt W s bs) : RN .u8 W (some ⟨s.1, 0, none⟩) bs := by
  have := h.1
  rw [← h.2.1] at this
  exact this.rn
/-- A disk: block b; its sectors' row gs, its map mb; n sectors; what they hold; what is dirty; the trip; is it down; its life. -/
structure DK (W : World) (b gs mb n : Nat) (sb : List (List Nat)) (dm : List (Nat × Sec × List Nat)) (trip : Int) (down : Bool) (life : Nat) : Prop where
  body : ∃ (cs : Nat) (sv : List Sec) (row : Array Value), W.heap[b]? = some (.cells #[.slice (some ⟨gs, 0, none⟩) n cs, .map (some mb), .int .i64 trip, .bool down, .int .i64 (life : Nat)] 85 (0, 0)) ∧ n ≤ cs ∧ sv.length = n ∧ W.heap[gs]? = some (.cells row 25 (0, 0)) ∧
    (∀ i (h : i < sv.length), row[i]? = some (secV sv[i])) ∧ ∀ i (h : i < sv.length) (h2 : i < sb.length), SecAt W sv[i] sb[i]
  len : sb.length = n
  map : ∃ D, W.ownsMap Tryz.prog 3 rdSec mb (Maps.size D) D ∧ Dirt D dm
  secs : ∀ x ∈ dm, x.1 < n ∧ SecAt W x.2.1 x.2.2
  small : n ≤ 4096
theorem DK.move {W W' : World} {b gs mb n : Nat} {sb : List (List Nat)} {dm : List (Nat × Sec × List Nat)} {trip : Int} {down : Bool} {life : Nat} (h : DK W b gs mb n sb dm trip down life)
    (hm : ∀ g, g < W.heap.size → (g = b ∨ g = gs ∨ g = mb ∨ ∃ cs x, W.heap[g]? = some (Obj.cells cs 5 x)) → W'.heap[g]? = W.heap[g]?) : DK W' b gs mb n sb dm trip down life := by
  obtain ⟨⟨cs, sv, row, h1, h2, h3, h4, h5, h6⟩, hl, ⟨D, h7, h8⟩, h9, h10⟩ := h
  have hu : ∀ (g : Nat) (cs : Array Value) (x : Nat × Nat), W.heap[g]? = some (Obj.cells cs 5 x) → W'.heap[g]? = W.heap[g]? := fun g cs x hh => hm g (Array.getElem?_eq_some_iff.1 hh).1 (.inr (.inr (.inr ⟨cs, x, hh⟩)))
  refine ⟨⟨cs, sv, row, (hm b (Array.getElem?_eq_some_iff.1 h1).1 (.inl rfl)).trans h1, h2, h3, (hm gs (Array.getElem?_eq_some_iff.1 h4).1 (.inr (.inl rfl))).trans h4, h5, fun i h hh => (h6 i h hh).move hu⟩, hl, ⟨D, ?_, h8⟩, fun x hx => ⟨(h9 x hx).1, (h9 x hx).2.move hu⟩, h10⟩
  obtain ⟨es, clock, q1, q2⟩ := h7
  exact ⟨es, clock, (hm mb (Array.getElem?_eq_some_iff.1 q1).1 (.inr (.inr (.inl rfl)))).trans q1, q2⟩
theorem DK.below {W W' : World} {b gs mb n : Nat} {sb : List (List Nat)} {dm : List (Nat × Sec × List Nat)} {trip : Int} {down : Bool} {life : Nat} (h : DK W b gs mb n sb dm trip down life) (hb : Below W.heap.size W W') : DK W' b gs mb n sb dm trip down life :=
  h.move (fun g hg _ => hb.block g hg)
theorem DK.lt {W : World} {b gs mb n : Nat} {sb : List (List Nat)} {dm : List (Nat × Sec × List Nat)} {trip : Int} {down : Bool} {life : Nat} (h : DK W b gs mb n sb dm trip down life) : b < W.heap.size ∧ gs < W.heap.size ∧ mb < W.heap.size := by
  obtain ⟨⟨cs, sv, row, h1, _, _, h4, _⟩, _, ⟨D, h7, _⟩, _⟩ := h
  exact ⟨(Array.getElem?_eq_some_iff.1 h1).1, (Array.getElem?_eq_some_iff.1 h4).1, h7.lt⟩
theorem DK.ne {W : World} {b gs mb n : Nat} {sb : List (List Nat)} {dm : List (Nat × Sec × List Nat)} {trip : Int} {down : Bool} {life : Nat} (h : DK W b gs mb n sb dm trip down life) : b ≠ gs ∧ b ≠ mb ∧ gs ≠ mb := by
  obtain ⟨⟨cs, sv, row, h1, _, _, h4, _⟩, _, ⟨D, ⟨es, clock, h7, _⟩, _⟩, _⟩ := h
  refine ⟨fun e => ?_, fun e => ?_, fun e => ?_⟩
  · rw [e, h4] at h1; injection h1 with h1; injection h1 with _ h1 _; exact absurd h1 (by decide)
  · rw [e, h7] at h1; cases h1
  · rw [e, h7] at h4; cases h4
end Go.Proofs.YtbcamfbbooggfaaGreat.F
end

section
/- A disk: made, asked, read. -/
set_option linter.unusedVariables false
set_option linter.unusedSimpArgs false
namespace Go.Proofs.YtbcamfbbooggfaaGreat.F
open Go.RowKit Go.Proofs.YtbcamfbbooggfaaGreatW.PrintWords
attribute [local go_sem ↓] Go.wp_at_zero Go.wp_at_succ

theorem DK.cells {W : World} {b gs mb n : Nat} {sb : List (List Nat)} {dm : List (Nat × Sec × List Nat)} {trip : Int} {down : Bool} {life : Nat} (h : DK W b gs mb n sb dm trip down life) :
    ∃ cs, W.cell? ⟨b, 0, none⟩ = some (.slice (some ⟨gs, 0, none⟩) n cs) ∧ W.cell? ⟨b, 1, none⟩ = some (.map (some mb)) ∧ W.cell? ⟨b, 2, none⟩ = some (.int .i64 trip) ∧ W.cell? ⟨b, 3, none⟩ = some (.bool down) ∧ W.cell? ⟨b, 4, none⟩ = some (.int .i64 (life : Nat)) ∧
      W.frozen? ⟨b, 2, none⟩ = false ∧ W.frozen? ⟨b, 3, none⟩ = false ∧ W.frozen? ⟨b, 4, none⟩ = false ∧ n ≤ cs := by
  obtain ⟨⟨cs, sv, row, h1, h2, _⟩, _⟩ := h
  refine ⟨cs, ?_, ?_, ?_, ?_, ?_, frozen_of_row _ _ _ _ _ h1, frozen_of_row _ _ _ _ _ h1, frozen_of_row _ _ _ _ _ h1, h2⟩ <;> (rw [cell_of_row _ _ _ _ _ _ h1]; rfl)
/-- The i-th sector that is sure. -/
theorem DK.sure {W : World} {b gs mb n : Nat} {sb : List (List Nat)} {dm : List (Nat × Sec × List Nat)} {trip : Int} {down : Bool} {life : Nat} (h : DK W b gs mb n sb dm trip down life) (i : Nat) (hi : i < n) :
    ∃ s : Sec, W.cell? ⟨gs, i, none⟩ = some (secV s) ∧ W.frozen? ⟨gs, i, none⟩ = false ∧ SecAt W s (sb[i]'(by rw [h.len]; exact hi)) := by
  obtain ⟨⟨cs, sv, row, h1, h2, h3, h4, h5, h6⟩, hl, _⟩ := h
  exact ⟨sv[i], by rw [cell_of_row _ _ _ _ _ _ h4]; exact h5 i (by omega), frozen_of_row _ _ _ _ _ h4, h6 i (by omega) (by omega)⟩
theorem lawK : Maps.Keyed Tryz.prog 3 := Maps.int_keyed Tryz.underlying3
theorem keyOfI (k : Nat) (h : k ≤ 1000000) : keyOf Tryz.prog 3 (.int .i64 (k : Nat)) = some (Lit.int .i64 (k : Nat)) := Maps.keyOf_int_mk Tryz.underlying3 (WalkArith.wf_i64 (by omega))

set_option maxHeartbeats 1000000 in
theorem Down_c {b gs mb n : Nat} {sb : List (List Nat)} {dm : List (Nat × Sec × List Nat)} {trip : Int} {down : Bool} {life : Nat} (w : World) (h : DK w b gs mb n sb dm trip down life) :
    Calls Tryz.prog 27 #[.pointer (some ⟨b, 0, none⟩)] w fun e w' => e = .returned (.bool down) ∧ w' = w := by
  obtain ⟨cs, _, _, _, k3, _⟩ := h.cells
  clear h
  go_enter Tryz.func27, Tryz.ntmps27
  go_wp2_with fail
  go_ret
  exact ⟨rfl, rfl⟩
set_option maxHeartbeats 1000000 in
theorem powered_c {b gs mb n : Nat} {sb : List (List Nat)} {dm : List (Nat × Sec × List Nat)} {trip : Int} {down : Bool} {life : Nat} (i : Nat) (w : World) (h : DK w b gs mb n sb dm trip down life) (hi : i < n) :
    Calls Tryz.prog 40 #[.pointer (some ⟨b, 0, none⟩), .int .i64 (i : Nat)] w fun e w' => e = .returned (.int .i64 (if down then 7 else 0)) ∧ w' = w := by
  obtain ⟨cs, k0, _, _, k3, _⟩ := h.cells
  have hsm := h.small
  have d1 : decide ((i : Int) < 0) = false := decide_eq_false (by omega)
  have d2 : decide ((n : Int) ≤ (i : Int)) = false := decide_eq_false (by omega)
  have d2' : decide (n ≤ i) = false := decide_eq_false (by omega)
  clear h
  cases down with
  | true =>
    go_enter Tryz.func40, Tryz.ntmps40
    go_wp2_with fail
    go_ret
    exact ⟨rfl, rfl⟩
  | false =>
    go_enter Tryz.func40, Tryz.ntmps40
    go_wp2_with fail
    go_ret
    exact ⟨rfl, rfl⟩
/-- A sector's bytes, with zeros behind. -/
def wholeN (bs : List Nat) : List Nat := bs ++ List.replicate (128 - bs.length) 0
theorem wholeN_len (bs : List Nat) (h : bs.length ≤ 128) : (wholeN bs).length = 128 := by simp [wholeN]; omega
theorem wholeN_full (bs : List Nat) (h : bs.length = 128) : wholeN bs = bs := by simp [wholeN, h]
theorem secOf {W : World} {base : Nat} {v : Value} {bs : List Nat} (ho : OwnN .u8 5 W base v bs) (hl : bs.length = 128) (hb : ∀ x ∈ bs, x < 256) : ∃ s : Sec, v = secV s ∧ SecAt W s bs ∧ base ≤ s.1 := by
  obtain ⟨A, c, e, hc, hr, hp⟩ := RV.ofOwn (show W.ownsRow base 5 1 v bs.length (bs.map (encN .u8)) from ho)
  obtain ⟨g, e2, hg⟩ := hp (by omega)
  subst e2
  rw [hl] at hr hc e
  exact ⟨(g, c), e, ⟨hr, hl, hc, hb⟩, hg⟩
set_option maxHeartbeats 2000000 in
theorem whole_c (A : Option Addr) (c : Nat) (bs : List Nat) (w : World) (hr : RN .u8 w A bs) (hc : bs.length ≤ c) (h1 : 0 < bs.length) (h2 : bs.length ≤ 128) (hb : ∀ x ∈ bs, x < 256) :
    Calls Tryz.prog 112 #[.slice A bs.length c] w fun e w' => ∃ s : Sec, e = .returned (secV s) ∧ SecAt w' s (wholeN bs) ∧ w.heap.size ≤ s.1 ∧ Below w.heap.size w w' := by
  have hcl := CloneB_c A c bs w hr (by omega) hc
  have HCL := Lib.hid hcl
  have HB := Lib.hid hb
  have hz : (128 : Int) - (bs.length : Nat) = ((128 - bs.length : Nat) : Int) := by omega
  have wz : IntKind.i64.wrap ((128 : Int) - (bs.length : Nat)) = ((128 - bs.length : Nat) : Int) := by rw [IntKind.wrap_i64]; omega
  have HZ := Lib.hid hz
  clear hcl hr hb
  go_enter Tryz.func112, Tryz.ntmps112
  go_wp2_with fail
  refine HCL.out.mono ?_
  rintro e w1 ⟨v1, rfl, ho1, hb1⟩
  obtain ⟨A1, c1, e1, hc1, _⟩ := ho1.reads
  subst e1
  have HO1 := Lib.hid ho1
  have HB1 := Lib.hid hb1
  have hs1 := hb1.size
  clear ho1 hb1 HCL
  go_wp2_with (at_builtin; refine append_zeros w.heap.size rfl (.tmp 4) (.tmp 7) rfl (.slice A1 bs.length c1) bs (128 - bs.length) rfl (by first | rfl | (rw [← HZ.out]; rfl)) HO1.out h1 hs1 (by omega) ?_; intro vf wf hof hgf)
  obtain ⟨s, e, hs, hg⟩ := secOf hof (wholeN_len bs h2) (by
    intro x hx
    rcases List.mem_append.1 hx with h | h
    · exact HB.out x h
    · rw [List.eq_of_mem_replicate h]; decide)
  subst e
  have hbf := HB1.out.trans (below_grown HO1.out hs1 hgf)
  have HS := Lib.hid hs
  have HBF := Lib.hid hbf
  clear hof hgf hs hbf
  dsimp only [secV]
  go_wp2_with fail
  go_ret
  exact ⟨s, rfl, HS.out, hg, HBF.out⟩
/-- What a sector has. -/
def readN (sb : List (List Nat)) (dm : List (Nat × Sec × List Nat)) (i : Nat) : List Nat := match lk dm i with
  | some s => s.2
  | none => sb.getD i []
theorem zeroSl (w : World) : (zeroValue 25).run Tryz.prog w = .ok (.slice none 0 0) w := by kernel_rfl
set_option maxHeartbeats 2000000 in
theorem Read_c {b gs mb n : Nat} {sb : List (List Nat)} {dm : List (Nat × Sec × List Nat)} {trip : Int} {life : Nat} (i : Nat) (w : World) (h : DK w b gs mb n sb dm trip false life) (hi : i < n) :
    Calls Tryz.prog 126 #[.pointer (some ⟨b, 0, none⟩), .int .i64 (i : Nat)] w fun e w' => ∃ v, e = .returned (.tuple #[v, .int .i64 0]) ∧ OwnN .u8 5 w' w.heap.size v (readN sb dm i) ∧ (readN sb dm i).length = 128 ∧ (∀ x ∈ readN sb dm i, x < 256) ∧ Below w.heap.size w w' := by
  have hp := powered_c i w h hi
  obtain ⟨cs, k0, k1, _, _, _, _, _, _, hcs⟩ := h.cells
  obtain ⟨s0, q0, _, hs0⟩ := h.sure i hi
  have hsm := h.small
  have hlen := h.len
  obtain ⟨D, hown, hD⟩ := h.map
  have hkey := keyOfI i (by omega)
  have HP := Lib.hid hp
  have HOWN := Lib.hid hown
  have hhas := (hD.2.2.2 i).1
  have hat := (hD.2.2.2 i).2
  have hsec : ∀ s, lk dm i = some s → SecAt w s.1 s.2 := fun s hs => (h.secs _ (lk_mem hs)).2
  have i0 : (0 : Int) ≤ (i : Int) := by omega
  have i1 : (i : Int) < (n : Int) := by omega
  cases hlk : lk dm i with
  | some s =>
    have hrd : readN sb dm i = s.2 := by unfold readN; rw [hlk]
    have hsa := hsec s hlk
    have hcl := CloneB_c (some ⟨s.1.1, 0, none⟩) s.1.2 s.2 w hsa.rn (by have := hsa.2.1; omega) (by have := hsa.2.1; have := hsa.2.2.1; omega)
    rw [hsa.2.1] at hcl
    rw [hrd]
    have hat' := hat s hlk
    rw [hlk] at hhas
    have hhas' : Maps.has D (.int .i64 (i : Nat)) = true := hhas
    have HCL := Lib.hid hcl
    have HSA := Lib.hid hsa
    have HAT := Lib.hid hat'
    have HH := Lib.hid hhas'
    clear hp hown hD hhas hat hsec hlk hrd hsa hcl hat' hhas' h q0 hs0
    go_enter Tryz.func126, Tryz.ntmps126
    go_wp2_with fail
    refine HP.out.mono ?_
    rintro e w1 ⟨rfl, hw1⟩
    subst hw1
    simp only [Bool.false_eq_true, if_false]
    go_wp2_with (at_lookup; refine wpList_lookup_own_ok _ rfl _ _ 83 rfl 3 25 lawK Tryz.underlying83 rdSec (zeroSl _) (.lit (.bool false)) [] rdSec_nil mb _ D rfl HOWN.out _ _ rfl hkey ?_; intro v ps hv; rw [HAT.out] at hv; obtain rfl := rdSec_inv hv; rw [HH.out])
    refine HCL.out.mono ?_
    rintro e w2 ⟨v2, rfl, ho2, hb2⟩
    obtain ⟨A2, c2, e2, _, _⟩ := ho2.reads
    subst e2
    have HO2 := Lib.hid ho2
    have HB2 := Lib.hid hb2
    clear ho2 hb2
    go_wp2_with fail
    go_ret2
    exact ⟨_, rfl, HO2.out, HSA.out.2.1, HSA.out.2.2.2, HB2.out⟩
  | none =>
    have hrd : readN sb dm i = sb[i]'(by omega) := by unfold readN; rw [hlk]; simp [List.getD, List.getElem?_eq_getElem (show i < sb.length by omega)]
    obtain ⟨bs, hbs⟩ : ∃ bs, sb[i]'(by omega) = bs := ⟨_, rfl⟩
    rw [hbs] at hrd hs0
    have hcl := CloneB_c (some ⟨s0.1, 0, none⟩) s0.2 bs w hs0.rn (by have := hs0.2.1; omega) (by have := hs0.2.1; have := hs0.2.2.1; omega)
    rw [hs0.2.1] at hcl
    rw [hrd]
    rw [hlk] at hhas
    have hhas' : Maps.has D (.int .i64 (i : Nat)) = false := hhas
    have HCL := Lib.hid hcl
    have HSA := Lib.hid hs0
    have HH := Lib.hid hhas'
    clear hp hown hD hhas hat hsec hlk hrd hcl hhas' h hs0 hbs
    go_enter Tryz.func126, Tryz.ntmps126
    go_wp2_with fail
    refine HP.out.mono ?_
    rintro e w1 ⟨rfl, hw1⟩
    subst hw1
    simp only [Bool.false_eq_true, if_false]
    go_wp2_with (at_lookup; refine wpList_lookup_own_ok _ rfl _ _ 83 rfl 3 25 lawK Tryz.underlying83 rdSec (zeroSl _) (.lit (.bool false)) [] rdSec_nil mb _ D rfl HOWN.out _ _ rfl hkey ?_; intro v ps hv; clear hv; rw [HH.out])
    refine HCL.out.mono ?_
    rintro e w2 ⟨v2, rfl, ho2, hb2⟩
    obtain ⟨A2, c2, e2, _, _⟩ := ho2.reads
    subst e2
    have HO2 := Lib.hid ho2
    have HB2 := Lib.hid hb2
    clear ho2 hb2
    go_wp2_with fail
    go_ret2
    exact ⟨_, rfl, HO2.out, HSA.out.2.1, HSA.out.2.2.2, HB2.out⟩

theorem zeros128 (x : Nat) (h : x ∈ List.replicate 128 0) : x < 256 := by rw [List.eq_of_mem_replicate h]; decide
set_option maxRecDepth 20000 in
set_option maxHeartbeats 8000000 in
theorem DNew_c (n : Nat) (w : World) (h1 : 1 ≤ n) (h2 : n ≤ 4096) :
    Calls Tryz.prog 6 #[.int .i64 (n : Nat)] w fun e w' => ∃ b gs mb, e = .returned (.tuple #[.pointer (some ⟨b, 0, none⟩), .int .i64 0]) ∧ DK w' b gs mb n (List.replicate n (List.replicate 128 0)) [] 0 false 0 ∧ w.heap.size ≤ b ∧ w.heap.size ≤ gs ∧ w.heap.size ≤ mb ∧ Below w.heap.size w w' := by
  have d1 : decide ((n : Int) < 1) = false := decide_eq_false (by omega)
  have d1' : decide (n < 1) = false := decide_eq_false (by omega)
  have d2 : decide ((4096 : Int) < (n : Int)) = false := decide_eq_false (by omega)
  have d2' : decide (4096 < n) = false := decide_eq_false (by omega)
  have hm0 := World.ownsMap_made w Tryz.prog 3 rdSec
  have hba : Below w.heap.size w (w.alloc (.map #[] 0)) := (Below.refl _ _).alloc (Nat.le_refl _) _
  have hbb : Below w.heap.size w ((w.alloc (.map #[] 0)).alloc (.cells #[.slice none 0 0, .map (some w.heap.size), .int .i64 0, .bool false, .int .i64 0] 85)) := hba.alloc (by simp) _
  have hg1 : ((w.alloc (.map #[] 0)).alloc (.cells #[.slice none 0 0, .map (some w.heap.size), .int .i64 0, .bool false, .int .i64 0] 85)).heap[w.heap.size + 1]? = some (.cells #[.slice none 0 0, .map (some w.heap.size), .int .i64 0, .bool false, .int .i64 0] 85 (0, 0)) := by
    have := heap_alloc_new (w.alloc (.map #[] 0)) (.cells #[.slice none 0 0, .map (some w.heap.size), .int .i64 0, .bool false, .int .i64 0] 85)
    simpa using this
  have hm1 : ((w.alloc (.map #[] 0)).alloc (.cells #[.slice none 0 0, .map (some w.heap.size), .int .i64 0, .bool false, .int .i64 0] 85)).heap[w.heap.size]? = some (.map #[] 0) := (Below.heap_alloc _ _ _ (by simp)).trans (MapKept.heap_alloc w _).1
  have HM := Lib.hid hm0
  have HBB := Lib.hid hbb
  have HG1 := Lib.hid hg1
  have HM1 := Lib.hid hm1
  clear hm0 hba hbb hg1 hm1
  have hmm := @run_makeMap Tryz.prog
  go_enter Tryz.func6, Tryz.ntmps6
  go_wp2_with fail
  have hbb := HBB.out
  have hg1 := HG1.out
  have hm1 := HM1.out
  generalize (w.alloc (.map #[] 0)).alloc (.cells #[.slice none 0 0, .map (some w.heap.size), .int .i64 0, .bool false, .int .i64 0] 85) = w1 at hbb hg1 hm1 ⊢
  have HBB' := Lib.hid hbb
  have HG1' := Lib.hid hg1
  have HM1' := Lib.hid hm1
  obtain ⟨b, hb⟩ : ∃ b, w.heap.size + 1 = b := ⟨_, rfl⟩
  rw [hb] at hg1 ⊢
  have HG1'' := Lib.hid hg1
  clear hbb hg1 hm1 HBB HG1 HM1 HG1'
  go_loopw [15] (fun vi W => ∃ (i : Nat) (v : Value) (sv : List Sec), i ≤ n ∧ vi = .int .i64 (i : Nat) ∧ sv.length = i ∧ W.ownsRow (w.heap.size + 2) 25 1 v i (sv.map secV) ∧ (∀ s ∈ sv, SecAt W s (List.replicate 128 0)) ∧
    W.heap[b]? = some (.cells #[v, .map (some w.heap.size), .int .i64 0, .bool false, .int .i64 0] 85 (0, 0)) ∧ W.heap[w.heap.size]? = some (.map #[] 0) ∧ Below w.heap.size w W ∧ w.heap.size + 2 ≤ W.heap.size) (fun vi _ => n - (RowKit.intOf vi).toNat)
  case atStart => exact ⟨0, _, [], by omega, rfl, rfl, World.ownsRow_nil _ _ _ _, fun s hs => by simp at hs, HG1''.out, HM1'.out, HBB'.out, by have := (Array.getElem?_eq_some_iff.1 HG1''.out).1; omega⟩
  case round =>
    obtain ⟨i, v, sv, hi, rfl, hsv, ho, hsec, hg, hm, hB, hsz⟩ := hrel
    have HO := Lib.hid ho
    have HSEC := Lib.hid hsec
    have HG := Lib.hid hg
    have HM2 := Lib.hid hm
    have HB := Lib.hid hB
    have hlb : b < wr.heap.size := (Array.getElem?_eq_some_iff.1 hg).1
    clear ho hsec hg hm hB
    by_cases hlt : i < n
    · have d3 : decide ((i : Int) < (n : Int)) = true := decide_eq_true (by omega)
      have kb : wr.cell? ⟨b, 0, none⟩ = some v := by rw [cell_of_row _ _ _ _ _ _ HG.out]; rfl
      obtain ⟨A5, c5, e5, hc5, _, _⟩ := RV.ofOwn HO.out
      subst e5
      have hmk : ∀ W : World, (Instr.makeSlice 25 (.int .i64 128) (.int .i64 128)).run Tryz.prog W = .ok (.slice (some ⟨W.heap.size, 0, none⟩) 128 128) (W.alloc (.cells (madeCells #[.int .u8 0] 128) 5)) := fun W => print_make 25 5 .u8 1 Tryz.underlying25 info_u8 (by decide) 128 (by decide) W
      have hmN := fun W : World => made_N (W := W) (base := W.heap.size) (e := 5) (k := .u8) (m := 128) (Nat.le_refl _) (by decide)
      have HMN := Lib.hid hmN
      obtain ⟨MC, hMC⟩ : ∃ MC, madeCells #[.int .u8 0] 128 = MC := ⟨_, rfl⟩
      rw [hMC] at hmk hmN
      have HMN2 := Lib.hid hmN
      clear hmN hMC HMN
      go_wp2_with fail
      refine wp_region_late [4] (fun w' => w'.cell? ⟨b, 0, none⟩ = some (.slice A5 i c5)) (by kernel_rfl) kb (fun hT => ?_)
      refine WL.take (i := 0) (v := ?_) rfl (by kernel_rfl) (by kernel_rfl) (by kernel_rfl) (by kernel_rfl) (fun _ _ _ h => h) (Or.inl ⟨by rfl, ?_⟩) (by assumption) ?_
      rotate_left 1
      · (intro w' hSw; (try (replace hSw := hSw (by decide); dsimp only at hSw)); go_split_ands; go_simp; try with_reducible rfl)
      simp only [Act.put, List.getElem_toArray, List.getElem_cons_zero, List.getElem_cons_succ, List.setIfInBounds_toArray, List.set_cons_zero, List.set_cons_succ]
      refine WL.take (i := 1) (v := ?_) rfl (by kernel_rfl) (by kernel_rfl) (by kernel_rfl) (by kernel_rfl) (fun _ _ _ h => h) (Or.inl ⟨by rfl, ?_⟩) (by assumption) ?_
      rotate_left 1
      · (intro w' hSw; (try (replace hSw := hSw (by decide); dsimp only at hSw)); go_split_ands; go_simp; try with_reducible rfl)
      simp only [Act.put, List.getElem_toArray, List.getElem_cons_zero, List.getElem_cons_succ, List.setIfInBounds_toArray, List.set_cons_zero, List.set_cons_succ]
      refine WL.take (i := 2) (v := ?_) rfl (by kernel_rfl) (by kernel_rfl) (by kernel_rfl) (by kernel_rfl) (fun _ _ _ h => h) (Or.inl ⟨by rfl, ?_⟩) (by assumption) ?_
      rotate_left 1
      · (intro w' hSw; (try (replace hSw := hSw (by decide); dsimp only at hSw)); go_split_ands; go_simp; try with_reducible rfl)
      simp only [Act.put, List.getElem_toArray, List.getElem_cons_zero, List.getElem_cons_succ, List.setIfInBounds_toArray, List.set_cons_zero, List.set_cons_succ]
      refine WL.take (i := 3) (v := ?_) rfl (by kernel_rfl) (by kernel_rfl) (by kernel_rfl) (by kernel_rfl) (fun _ _ _ h => h) (Or.inl ⟨by rfl, ?_⟩) (by assumption) ?_
      rotate_left 1
      · (intro w' hSw; (try (replace hSw := hSw (by decide); dsimp only at hSw)); go_split_ands; go_simp; try with_reducible rfl)
      simp only [Act.put, List.getElem_toArray, List.getElem_cons_zero, List.getElem_cons_succ, List.setIfInBounds_toArray, List.set_cons_zero, List.set_cons_succ]
      refine WL.take (i := 4) (v := ?_) rfl (by kernel_rfl) (by kernel_rfl) (by kernel_rfl) (by kernel_rfl) (fun _ _ _ h => h) (Or.inl ⟨by rfl, ?_⟩) (by assumption) ?_
      rotate_left 1
      · (intro w' hSw; (try (replace hSw := hSw (by decide); dsimp only at hSw)); go_split_ands; go_simp; try with_reducible rfl)
      simp only [Act.put, List.getElem_toArray, List.getElem_cons_zero, List.getElem_cons_succ, List.setIfInBounds_toArray, List.set_cons_zero, List.set_cons_succ]
      refine WL.one (i := 5) (by kernel_rfl) rfl (fun K hK => ?_)
      go_simp
      have hbn : Below wr.heap.size wr (wr.alloc (.cells MC 5)).drew := ((Below.refl _ _).alloc (Nat.le_refl _) _).drew
      have hmn := HMN2.out wr
      have hmn2 : OwnN .u8 5 (wr.alloc (.cells MC 5)).drew wr.heap.size (.slice (some ⟨wr.heap.size, 0, none⟩) 128 128) (List.replicate 128 0) := hmn.kept (Below.refl _ _).drew
      obtain ⟨s, es, hs, hsg⟩ := secOf hmn2 (by simp) zeros128
      have es2 : s = (wr.heap.size, 128) := by
        simp only [secV, Value.slice.injEq, Option.some.injEq, Addr.mk.injEq, true_and, and_true] at es
        exact Prod.ext es.1.symm es.2.symm
      subst es2
      have kb5 := (hbn.cell (p := ⟨b, 0, none⟩) hlb).trans kb
      refine hK.out _ _ (fun _ => kb5) ?_
      clear hK K hmn hmn2 es
      have ho5 := pw_own_below HO.out hbn
      have hg5 := (hbn.block b hlb).trans HG.out
      have hm5 := (hbn.block w.heap.size (by omega)).trans HM2.out
      have hB5 := HB.out.trans (hbn.mono (by omega))
      have hs5 := hbn.size
      have hsec5 : ∀ t ∈ sv ++ [(wr.heap.size, 128)], SecAt (wr.alloc (.cells MC 5)).drew t (List.replicate 128 0) := fun t ht => by
        rcases List.mem_append.1 ht with h | h
        · exact (HSEC.out t h).move (fun g cs x hh => hbn.block g (Array.getElem?_eq_some_iff.1 hh).1)
        · rw [List.mem_singleton.1 h]; exact hs
      have hlb5 : b < (wr.alloc (.cells MC 5)).drew.heap.size := by omega
      clear hs
      generalize (wr.alloc (.cells MC 5)).drew = w5 at kb5 ho5 hg5 hm5 hB5 hs5 hsec5 hlb5 ⊢
      generalize wr.heap.size = gz at hs5 hsec5 hsg ⊢
      refine WL.one (i := 6) (by kernel_rfl) rfl (fun K hK => ?_)
      go_simp
      have hbn6 : Below w5.heap.size w5 (w5.alloc (.cells #[.slice (some ⟨gz, 0, none⟩) 128 128] 25)) := (Below.refl _ _).alloc (Nat.le_refl _) _
      have hrv6 : RV 25 (w5.alloc (.cells #[.slice (some ⟨gz, 0, none⟩) 128 128] 25)) (some ⟨w5.heap.size, 0, none⟩) 1 [secV (gz, 128)] := RV_new _ w5 [secV (gz, 128)] 1 (by decide)
      have kb6 := (hbn6.cell (p := ⟨b, 0, none⟩) hlb5).trans kb5
      refine hK.out _ _ (fun _ => kb6) ?_
      clear hK K
      have ho6 := pw_own_below ho5 hbn6
      have hg6 := (hbn6.block b hlb5).trans hg5
      have hm6 := (hbn6.block w.heap.size (by omega)).trans hm5
      have hB6 := hB5.trans (hbn6.mono (by omega))
      have hs6 := hbn6.size
      have hsec6 : ∀ t ∈ sv ++ [(gz, 128)], SecAt (w5.alloc (.cells #[.slice (some ⟨gz, 0, none⟩) 128 128] 25)) t (List.replicate 128 0) := fun t ht => (hsec5 t ht).move (fun g cs x hh => hbn6.block g (Array.getElem?_eq_some_iff.1 hh).1)
      clear hbn6 kb5 ho5 hg5 hm5 hB5 hsec5
      generalize w5.alloc (.cells #[.slice (some ⟨gz, 0, none⟩) 128 128] 25) = w6 at hrv6 kb6 ho6 hg6 hm6 hB6 hs6 hsec6 ⊢
      generalize w5.heap.size = gl at hrv6 hs5 hs6 hlb5 ⊢
      refine WL.late (i := 7) (by kernel_rfl) rfl (by kernel_rfl) (fun K hK => ?_)
      rw [if_pos (by rfl)]
      refine wp_append_RV (w.heap.size + 2) (.tmp 21) (.tmp 23) 30 25 (.slice none 0 0) 1 24 (by rfl) Tryz.underlying30 info_bytes (by rfl) (by decide) (.slice A5 i c5) i (sv.map secV) (some ⟨gl, 0, none⟩) 1 1 [secV (gz, 128)] (by rfl) (by rfl) ho6 hrv6 (by simp) (by simp [secV, Value.oneCell']) (by omega) (by omega) (by omega) ?_
      intro v7 w7 ho7 hg7
      have hbase : ∀ k, (Value.slice A5 i c5).ownBlock = some k → w.heap.size + 2 ≤ k := fun k hk => own_base ho6 k hk
      have hgb : w7.heap[b]? = some (.cells #[.slice A5 i c5, .map (some w.heap.size), .int .i64 0, .bool false, .int .i64 0] 85 (0, 0)) := (hg7.block b (Array.getElem?_eq_some_iff.1 hg6).1 (fun e => by have := hbase b e.symm; omega)).trans hg6
      have hmb : w7.heap[w.heap.size]? = some (.map #[] 0) := (hg7.block w.heap.size (by omega) (fun e => by have := hbase _ e.symm; omega)).trans hm6
      have hB7 : Below w.heap.size w w7 := hB6.grown hg7 (by omega) (fun k e => by have := hbase k e; omega)
      have hty : ∀ k, (Value.slice A5 i c5).ownBlock = some k → ∃ cs x, w6.heap[k]? = some (.cells cs 25 x) := fun k hk => by
        rcases ho6.2 with ⟨e, _⟩ | ⟨g, cap, cur, e, _, hh, _⟩
        · rw [e] at hk; cases hk
        · rw [e] at hk; injection hk with hk; subst hk; exact ⟨_, _, hh⟩
      have hsec7 : ∀ t ∈ sv ++ [(gz, 128)], SecAt w7 t (List.replicate 128 0) := fun t ht => (hsec6 t ht).move (fun g cs x hh => hg7.block g (Array.getElem?_eq_some_iff.1 hh).1 (fun e => by
        obtain ⟨cs2, x2, h2⟩ := hty g e.symm
        rw [hh] at h2; injection h2 with h2; injection h2 with _ h2 _; exact absurd h2 (by decide)))
      obtain ⟨A7, c7, e7, hc7, _, _⟩ := RV.ofOwn ho7
      subst e7
      have hs7 := hg7.size
      have K2 : w7.cell? ⟨b, 0, none⟩ = some (.slice A5 i c5) := by rw [cell_of_row _ _ _ _ _ _ hgb]; rfl
      have K3 : w7.frozen? ⟨b, 0, none⟩ = false := frozen_of_row _ _ _ _ _ hgb
      have HO7 := Lib.hid ho7
      have HG7 := Lib.hid hgb
      have HM7 := Lib.hid hmb
      have HB7 := Lib.hid hB7
      have HS7 := Lib.hid hsec7
      have HBS := Lib.hid (fun k (hk : (Value.slice A7 (i + 1) c7).ownBlock = some k) => own_base ho7 k hk)
      clear ho7 hg7 hgb hmb hB7 hsec7 hty hbase ho6 hg6 hm6 hB6 hsec6 hrv6 kb6
      go_simp
      refine hK.out _ _ ?_
      clear hK K
      refine WL.late (i := 8) (by kernel_rfl) rfl (by kernel_rfl) (fun K hK => ?_)
      go_simp
      refine hK.out _ _ ?_
      clear hK K
      refine WL.late (i := 9) (by kernel_rfl) rfl (by kernel_rfl) (fun K hK => ?_)
      go_simp
      refine hK.out _ _ ?_
      clear hK K
      refine WL.late (i := 10) (by kernel_rfl) rfl (by kernel_rfl) (fun K hK => ?_)
      go_simp
      refine hK.out _ _ ?_
      clear hK K
      refine WL.done (by kernel_rfl) ?_ _
      go_wp2_with fail
      refine ⟨⟨i + 1, .slice A7 (i + 1) c7, sv ++ [(gz, 128)], by omega, by go_num, by simp [hsv], ?_, ?_, heap_setCell_same w7 b 0 _ _ _ HG7.out, (heap_setCell_other _ _ _ _ (fun e => by have e : w.heap.size = b := e; omega)).trans HM7.out, HB7.out.setCell (by show w.heap.size ≤ b; omega) _, by simp; omega⟩, by simp [RowKit.intOf]; omega⟩
      · rw [List.map_append]
        exact own_move HO7.out (fun k hk => heap_setCell_other _ _ _ _ (fun e => by have e : k = b := e; have := HBS.out k hk; omega))
      · exact fun t ht => (HS7.out t ht).move (fun g cs x hh => heap_setCell_other _ _ _ _ (fun e => by
          have e : g = b := e
          rw [e, HG7.out] at hh; injection hh with hh; injection hh with _ hh _; exact absurd hh (by decide)))
    · have d3 : decide ((i : Int) < (n : Int)) = false := decide_eq_false (by omega)
      obtain rfl : i = n := by omega
      obtain ⟨A5, c5, e5, hc5, hr5, hp5⟩ := RV.ofOwn HO.out
      subst e5
      go_wp2_with fail
      go_ret2
      obtain ⟨g5, eg5, hg5⟩ := hp5 (by omega)
      subst eg5
      obtain ⟨g6, o6, e6, ⟨row, x, hrow⟩, hcell⟩ := hr5.2 (by omega)
      simp only [Option.some.injEq, Addr.mk.injEq, and_true] at e6
      obtain ⟨rfl, rfl⟩ := e6
      refine ⟨b, g5, w.heap.size, rfl, ⟨⟨c5, sv, row, HG.out, hc5, hsv, ?_, ?_, ?_⟩, by simp, ⟨.map [], ?_, Dirt.nil⟩, fun x hx => by simp at hx, h2⟩, by omega, by omega, Nat.le_refl _, HB.out⟩
      · rcases HO.out.2 with ⟨e, _⟩ | ⟨g, cap, cur, e, _, hh, _⟩
        · cases e
        · simp only [Value.slice.injEq, Option.some.injEq, Addr.mk.injEq, and_true] at e
          obtain ⟨e, _⟩ := e
          rw [← e, hrow] at hh
          injection hh with hh
          injection hh with h1' h2' h3'
          rw [hrow, h3']
      · intro j hj
        have := hcell j (secV sv[j]) (by simp [hj])
        rw [cell_of_row _ _ _ _ _ _ hrow, Nat.zero_add] at this
        exact this
      · intro j hj hj2
        have := HSEC.out sv[j] (List.getElem_mem hj)
        simpa using this
      · exact ⟨#[], 0, HM2.out, ⟨by simp, MapKept.stamped_empty 0, by simp⟩, Nat.le_refl _, rfl⟩
end Go.Proofs.YtbcamfbbooggfaaGreat.F
end
