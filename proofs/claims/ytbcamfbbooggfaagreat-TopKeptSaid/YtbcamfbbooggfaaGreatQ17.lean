/- Part 17 of the proof: V1, V2. -/
import Derived.Test.YtbcamfbbooggfaaGreatQ03
import Derived.Test.YtbcamfbbooggfaaGreatQ06
import Derived.Test.YtbcamfbbooggfaaGreatQ10
import Derived.Test.YtbcamfbbooggfaaGreatQ07
import Derived.Deep.MidRow

section
/- A number's bytes; refs as bytes: that they can be laid. -/
set_option linter.unusedVariables false
set_option linter.unusedSimpArgs false
namespace Go.Proofs.YtbcamfbbooggfaaGreat.F
open Go.RowKit Go.Proofs.YtbcamfbbooggfaaGreatW.PrintWords

theorem wrapi (x : Int) (h1 : -9223372036854775808 ≤ x) (h2 : x ≤ 9223372036854775807) : IntKind.i64.wrap x = x := by rw [IntKind.wrap_i64]; omega
theorem RN_one (k : IntKind) (e : TypeId) (w : World) (x : Nat) : RN k (w.alloc (.cells #[.int k (x : Nat)] e)) (some ⟨w.heap.size, 0, none⟩) [x] := by
  have := own_lit_of (enc := encN k) w w.heap.size e [x] (by simp) (by simp)
  have h : OwnN k e (w.alloc (.cells #[.int k (x : Nat)] e)) w.heap.size (.slice (some ⟨w.heap.size, 0, none⟩) 1 1) [x] := by simpa [encs, encN, OwnN] using this
  obtain ⟨A, c, e1, _, hr⟩ := h.reads
  simp only [Value.slice.injEq] at e1
  rw [e1.1]
  exact hr
set_option maxRecDepth 20000 in
set_option maxHeartbeats 4000000 in
theorem Num_c (n : Nat) (w : World) (hn : n ≤ 1000000) :
    Calls Tryz.prog 153 #[.int .i64 (n : Nat)] w fun e w' => ∃ v xs, e = .returned (.tuple #[v, .int .i64 0]) ∧ OwnN .u8 5 w' w.heap.size v xs ∧ xs.length ≤ n + 1 ∧ Below w.heap.size w w' := by
  have d1 : decide ((0 : Int) ≤ (n : Int)) = true := decide_eq_true (by omega)
  have d2 : decide ((n : Int) ≤ 9007199254740991) = true := decide_eq_true (by omega)
  have HN0 := Lib.hid (OwnN.nil .u8 5 w w.heap.size)
  go_enter Tryz.func153, Tryz.ntmps153
  go_wp2_with fail
  refine (number_c n w (by omega)).mono ?_
  rintro e w1 ⟨rfl, hw1⟩
  subst hw1
  go_wp2_with fail
  go_loopw [0, 4] (fun vn vo W => ∃ (m : Nat) (xs : List Nat), vn = .int .i64 (m : Nat) ∧ xs.length + m ≤ n ∧ OwnN .u8 5 W w1.heap.size vo xs ∧ Below w1.heap.size w1 W) (fun vn _ _ => (intOf vn).toNat)
  case atStart => exact ⟨n, [], rfl, by simp, HN0.out, Below.refl _ _⟩
  case round =>
    obtain ⟨m, xs, rfl, hl, ho, hB⟩ := hrel
    have hsz := hB.size
    have HO := Lib.hid ho
    have HB := Lib.hid hB
    clear ho hB
    by_cases hm : 128 ≤ m
    · have d1 : decide ((128 : Int) ≤ (m : Int)) = true := decide_eq_true (by omega)
      have hr1 := RN_one .u8 5 wr (m % 128 + 128)
      rw [show (((m % 128 + 128 : Nat)) : Int) = (m : Int) % 128 + 128 by omega] at hr1
      have hba : Below wr.heap.size wr (wr.alloc (.cells #[.int .u8 ((m : Int) % 128 + 128)] 5)) := (Below.refl _ _).alloc (Nat.le_refl _) _
      have hoa := pw_own_below HO.out hba
      have hsa : w1.heap.size ≤ (wr.alloc (.cells #[.int .u8 ((m : Int) % 128 + 128)] 5)).heap.size := by have := hba.size; omega
      have HR1 := Lib.hid hr1
      have HOA := Lib.hid hoa
      have HBA := Lib.hid (HB.out.trans (hba.mono hsz))
      obtain ⟨A0, c0, e0, hc0, _⟩ := HO.out.reads
      subst e0
      clear hr1 hba hoa
      go_wp2_with (at_builtin; refine append_NN w1.heap.size rfl (.tmp 12) (.tmp 17) 25 5 .u8 1 rfl Tryz.underlying25 info_u8 (by decide) _ xs [m % 128 + 128] (some ⟨wr.heap.size, 0, none⟩) 1 rfl rfl HOA.out HR1.out hsa (by simp; omega) ?_; intro v3 w3 ho3 hg3 _)
      have hb3 := HBA.out.trans (below_grown HOA.out hsa hg3)
      have HO3 := Lib.hid ho3
      have HB3 := Lib.hid hb3
      clear ho3 hg3 hb3
      go_wp2_with fail
      exact ⟨⟨m / 128, _, by go_num, by simp; omega, HO3.out, HB3.out⟩, by simp [intOf]; omega⟩
    · have d1 : decide ((128 : Int) ≤ (m : Int)) = false := decide_eq_false (by omega)
      have hr1 := RN_one .u8 5 wr m
      have hmw : IntKind.u8.wrap (m : Int) = (m : Int) := by rw [IntKind.wrap_u8]; omega
      have hba : Below wr.heap.size wr (wr.alloc (.cells #[.int .u8 (m : Nat)] 5)) := (Below.refl _ _).alloc (Nat.le_refl _) _
      have hoa := pw_own_below HO.out hba
      have hsa : w1.heap.size ≤ (wr.alloc (.cells #[.int .u8 (m : Nat)] 5)).heap.size := by have := hba.size; omega
      have HR1 := Lib.hid hr1
      have HOA := Lib.hid hoa
      have HBA := Lib.hid (HB.out.trans (hba.mono hsz))
      obtain ⟨A0, c0, e0, hc0, _⟩ := HO.out.reads
      subst e0
      clear hr1 hba hoa
      go_wp2_with (at_builtin; refine append_NN w1.heap.size rfl (.tmp 19) (.tmp 22) 25 5 .u8 1 rfl Tryz.underlying25 info_u8 (by decide) _ xs [m] (some ⟨wr.heap.size, 0, none⟩) 1 rfl rfl HOA.out HR1.out hsa (by simp; omega) ?_; intro v3 w3 ho3 hg3 _)
      have hb3 := HBA.out.trans (below_grown HOA.out hsa hg3)
      have HO3 := Lib.hid ho3
      have HB3 := Lib.hid hb3
      clear ho3 hg3 hb3
      go_wp2_with fail
      go_ret2
      exact ⟨v3, _, rfl, HO3.out, by simp; omega, HB3.out⟩

/-- Numbers laid behind bytes. -/
def NumsAns (base : Nat) (v : Value) (n k : Nat) (w : World) (e : Ending) (w' : World) : Prop :=
  ∃ v1 ys, e = .returned v1 ∧ OwnN .u8 5 w' base v1 ys ∧ ys.length ≤ n + k ∧ Gr (fun g => v.ownBlock = some g) w w' ∧ (v1.ownBlock = v.ownBlock ∨ ∃ b, v1.ownBlock = some b ∧ w.heap.size ≤ b)
theorem RV.intAt {W : World} {A : Option Addr} {l : List Nat} (h : RV 3 W A l.length (l.map (encN .i64))) (i : Nat) (hi : i < l.length) : ∃ g o, A = some ⟨g, o, none⟩ ∧ W.cell? ⟨g, o + i, none⟩ = some (.int .i64 (l[i] : Nat)) := by
  obtain ⟨g, o, e, _, hc⟩ := h.2 (by omega)
  exact ⟨g, o, e, hc i _ (by simp [hi, encN])⟩
set_option maxRecDepth 20000 in
set_option maxHeartbeats 4000000 in
theorem nums_c (base : Nat) (v : Value) (xs : List Nat) (A : Option Addr) (c : Nat) (l : List Nat) (w : World) (ho : OwnN .u8 5 w base v xs) (hbs : base ≤ w.heap.size) (hl : RV 3 w A l.length (l.map (encN .i64))) (hx : ∀ x ∈ l, x ≤ 1000000) (hk : l.length ≤ 10) (hxs : xs.length ≤ 100000000) :
    Calls Tryz.prog 124 #[v, .slice A l.length c] w (NumsAns base v xs.length (1000001 * l.length) w) := by
  have HO := Lib.hid ho
  have HL := Lib.hid hl
  have HX := Lib.hid hx
  obtain ⟨A0, c0, e0, hc0, _⟩ := ho.reads
  have HV : Hid (v.ownBlock = v.ownBlock) := Lib.hid rfl
  clear ho hl hx
  have hty : ∀ g, v.ownBlock = some g → ∃ cs, w.heap[g]? = some (.cells cs 5 (0, 0)) := fun g hg => (HO.out.typed g hg).2.2
  have HTY := Lib.hid hty
  clear hty
  subst e0
  go_enter Tryz.func124, Tryz.ntmps124
  go_wp2_with fail
  go_loopw [0, 11] (fun vb vi W => ∃ (i : Nat) (ys : List Nat), i ≤ l.length ∧ vi = .int .i64 (i : Nat) ∧ ys.length ≤ xs.length + 1000001 * i ∧ OwnN .u8 5 W base vb ys ∧ Gr (fun g => (Value.slice A0 xs.length c0).ownBlock = some g) w W ∧ (vb.ownBlock = (Value.slice A0 xs.length c0).ownBlock ∨ ∃ b, vb.ownBlock = some b ∧ w.heap.size ≤ b)) (fun _ vi _ => l.length - (intOf vi).toNat)
  case atStart => exact ⟨0, xs, by omega, rfl, by omega, HO.out, Gr.refl _ _, .inl rfl⟩
  case round =>
    obtain ⟨i, ys, hi, rfl, hy, ho, hG, hat⟩ := hrel
    have hsz := hG.size
    have HOI := Lib.hid ho
    have HG := Lib.hid hG
    have HAT := Lib.hid hat
    obtain ⟨A1, c1, e1, hc1, _⟩ := ho.reads
    clear ho hG hat
    subst e1
    by_cases hlt : i < l.length
    · have d1 : decide ((i : Int) < (l.length : Int)) = true := decide_eq_true (by omega)
      have hlr : RV 3 wr A l.length (l.map (encN .i64)) := HL.out.move (fun g cs x hh => HG.out.block g (Array.getElem?_eq_some_iff.1 hh).1 (fun hg => by
        obtain ⟨cs2, h2⟩ := HTY.out g hg
        rw [hh] at h2
        injection h2 with h2
        injection h2 with _ h2 _
        exact absurd h2 (by decide)))
      obtain ⟨g, o, eA, hc⟩ := hlr.intAt i hlt
      subst eA
      have hxi := HX.out l[i] (List.getElem_mem hlt)
      obtain ⟨x, hxx⟩ : ∃ x, l[i] = x := ⟨_, rfl⟩
      rw [hxx] at hc hxi
      have i0 : (0 : Int) ≤ (i : Int) := by omega
      have i1 : (i : Int) < (l.length : Int) := by omega
      clear hlr hxx
      go_wp2_with fail
      refine (Num_c x wr hxi).mono ?_
      rintro e w2 ⟨v2, zs, rfl, ho2, hz, hb2⟩
      obtain ⟨A2, c2, e2, hc2, hr2⟩ := ho2.reads
      subst e2
      have hs2 := hb2.size
      have hob := pw_own_below HOI.out hb2
      have HOB := Lib.hid hob
      have HR2 := Lib.hid hr2
      have HB2 := Lib.hid hb2
      have hbw : base ≤ w2.heap.size := by omega
      clear ho2 hob hr2 hb2
      go_wp2_with (at_builtin; refine append_NN base rfl (.tmp 20) (.tmp 21) 25 5 .u8 1 rfl Tryz.underlying25 info_u8 (by decide) (.slice A1 ys.length c1) ys zs A2 c2 rfl rfl HOB.out HR2.out hbw (by omega) ?_; intro v3 w3 ho3 hg3 hat3)
      have hG3 : Gr (fun g => (Value.slice A0 xs.length c0).ownBlock = some g) w w3 := by
        refine HG.out.trans (S' := fun k => (Value.slice A1 ys.length c1).ownBlock = some k) ?_ ?_
        · exact ⟨hg3.os.trans HB2.out.os, hg3.tape.trans HB2.out.tape, hg3.output.trans HB2.out.output, Nat.le_trans hs2 hg3.size, fun k hk hn => (hg3.block k (by omega) (fun e => hn e.symm)).trans (HB2.out.block k hk)⟩
        · intro k hk hS
          rcases HAT.out with h | ⟨b, h, hb⟩
          · rw [← h]; exact hS
          · rw [h] at hS; injection hS with hS; omega
      have hat4 : v3.ownBlock = (Value.slice A0 xs.length c0).ownBlock ∨ ∃ b, v3.ownBlock = some b ∧ w.heap.size ≤ b := by
        rcases hat3 with h | ⟨b, h, hb⟩
        · rw [h]; exact HAT.out
        · exact .inr ⟨b, h, by omega⟩
      have HO3 := Lib.hid ho3
      have HG3 := Lib.hid hG3
      have HAT4 := Lib.hid hat4
      clear ho3 hg3 hat3 hG3 hat4
      go_wp2_with fail
      exact ⟨⟨i + 1, _, by omega, by go_num, by simp; omega, HO3.out, HG3.out, HAT4.out⟩, by simp [intOf]; omega⟩
    · have d1 : decide ((i : Int) < (l.length : Int)) = false := decide_eq_false (by omega)
      obtain rfl : i = l.length := by omega
      go_wp2_with fail
      go_ret
      exact ⟨_, ys, rfl, HOI.out, hy, HG.out, HAT.out⟩
end Go.Proofs.YtbcamfbbooggfaaGreat.F
end

section
/- Refs are right: they can be laid as bytes. -/
set_option linter.unusedVariables false
set_option linter.unusedSimpArgs false
namespace Go.Proofs.YtbcamfbbooggfaaGreat.F
open Go.RowKit Go.Proofs.YtbcamfbbooggfaaGreatW.PrintWords
attribute [local go_sem ↓] Go.wp_at_zero Go.wp_at_succ

/-- A ref: its sum's bytes, how long it is, its container, its slot. -/
abbrev Rf := List Nat × Nat × Nat × Nat
def rfCells (r : Rf) : List Value := r.1.map (encN .u8) ++ [.int .i64 (r.2.1 : Nat), .int .i64 (r.2.2.1 : Nat), .int .i64 (r.2.2.2 : Nat)]
def flatRf (l : List Rf) : List Value := l.flatMap rfCells
theorem rfCells_len {r : Rf} (h : r.1.length = 32) : (rfCells r).length = 35 := by simp [rfCells, h]
theorem rfCells_one (r : Rf) : ∀ u ∈ rfCells r, u.oneCell' = true := fun u hu => by
  unfold rfCells at hu
  simp only [List.mem_append, List.mem_map, List.mem_cons, List.not_mem_nil, or_false] at hu
  rcases hu with ⟨x, _, rfl⟩ | rfl | rfl | rfl <;> rfl
theorem rfCells_hi {r : Rf} (h : r.1.length = 32) (j : Nat) : (rfCells r).toArray[32 + j]? = [Value.int .i64 (r.2.1 : Nat), .int .i64 (r.2.2.1 : Nat), .int .i64 (r.2.2.2 : Nat)][j]? := by
  unfold rfCells
  rw [List.getElem?_toArray, List.getElem?_append_right (by simp [h])]
  simp [h]
theorem rfCells_lo {r : Rf} (j : Nat) (hj : j < r.1.length) : (rfCells r).toArray[j]? = some (.int .u8 (r.1[j] : Nat)) := by
  unfold rfCells
  rw [List.getElem?_toArray, List.getElem?_append_left (by simpa using hj)]
  simp [encN, hj]
def RfOk (r : Rf) : Prop := r.1.length = 32 ∧ (∀ x ∈ r.1, x < 256) ∧ 1 ≤ r.2.1 ∧ r.2.1 ≤ 512 ∧ r.2.2.1 < 4096 ∧ r.2.2.2 < 64
theorem infoRf : (Tryz.prog.info? 64).map (·.size) = some 35 := by kernel_rfl
set_option maxRecDepth 20000 in
set_option maxHeartbeats 4000000 in
theorem right_c (r : Rf) (hk : RfOk r) (w : World) : Calls Tryz.prog 125 #[.agg (rfCells r).toArray] w fun e w' => e = .returned (.bool true) ∧ Below w.heap.size w w' := by
  obtain ⟨h32, h256, h1, h2, h3, h4⟩ := hk
  have e0 := rfCells_hi h32 0
  have e1 := rfCells_hi h32 1
  have e2 := rfCells_hi h32 2
  obtain ⟨a, ha⟩ : ∃ a, r.2.1 = a := ⟨_, rfl⟩
  obtain ⟨b, hb⟩ : ∃ b, r.2.2.1 = b := ⟨_, rfl⟩
  obtain ⟨s, hs⟩ : ∃ s, r.2.2.2 = s := ⟨_, rfl⟩
  rw [ha, hb, hs] at e0 e1 e2
  rw [ha] at h1 h2
  rw [hb] at h3
  rw [hs] at h4
  obtain ⟨C, hC⟩ : ∃ C, (rfCells r).toArray = C := ⟨_, rfl⟩
  rw [hC] at e0 e1 e2 ⊢
  have hg : (w.alloc (.cells C 64)).heap[w.heap.size]? = some (.cells C 64 (0, 0)) := heap_alloc_new _ _
  have hbw : Below w.heap.size w (w.alloc (.cells C 64)) := (Below.refl _ _).alloc (Nat.le_refl _) _
  have k0 : (w.alloc (.cells C 64)).cell? ⟨w.heap.size, 32, none⟩ = some (.int .i64 (a : Nat)) := by rw [cell_of_row _ _ _ _ _ _ hg]; exact e0
  have k1 : (w.alloc (.cells C 64)).cell? ⟨w.heap.size, 33, none⟩ = some (.int .i64 (b : Nat)) := by rw [cell_of_row _ _ _ _ _ _ hg]; exact e1
  have k2 : (w.alloc (.cells C 64)).cell? ⟨w.heap.size, 34, none⟩ = some (.int .i64 (s : Nat)) := by rw [cell_of_row _ _ _ _ _ _ hg]; exact e2
  have HBW := Lib.hid hbw
  have d1 : decide ((1 : Int) ≤ (a : Int)) = true := decide_eq_true (by omega)
  have d2 : decide ((a : Int) ≤ 512) = true := decide_eq_true (by omega)
  have d3 : decide ((0 : Int) ≤ (b : Int)) = true := decide_eq_true (by omega)
  have d4 : decide ((b : Int) < 4096) = true := decide_eq_true (by omega)
  have d5 : decide ((0 : Int) ≤ (s : Int)) = true := decide_eq_true (by omega)
  have d6 : decide ((s : Int) < 64) = true := decide_eq_true (by omega)
  clear e0 e1 e2 hC hbw hg ha hb hs
  go_enter Tryz.func125, Tryz.ntmps125
  go_wp2_with fail
  go_ret
  exact ⟨rfl, HBW.out⟩

theorem RV_new (t : TypeId) (w : World) (cs : List Value) (n : Nat) (hn : n ≤ 9223372036854775807) : RV t (w.alloc (.cells cs.toArray t)) (some ⟨w.heap.size, 0, none⟩) n cs :=
  ⟨hn, fun _ => ⟨w.heap.size, 0, rfl, ⟨_, _, heap_alloc_new _ _⟩, fun j u hu => by rw [cell_of_row _ _ _ _ _ _ (heap_alloc_new _ _), Nat.zero_add]; simpa using hu⟩⟩
def zeroRf : Array Value := Array.replicate 32 (.int .u8 0) ++ #[.int .i64 0, .int .i64 0, .int .i64 0]
theorem zeroRf_size : zeroRf.size = 35 := by simp [zeroRf]
theorem zeroRf_eq : ∀ W : World, Sem.run Tryz.prog (zeroValue 64) W = .ok (.agg zeroRf) W := fun _ => by kernel_rfl
theorem RV.ref {W : World} {A : Option Addr} {l : List Rf} (h : RV 64 W A l.length (flatRf l)) (hs : ∀ r ∈ l, r.1.length = 32) (i : Nat) (hi : i < l.length) : ∃ g o, A = some ⟨g, o, none⟩ ∧ W.rangeAt g (o + i * 35) (rfCells l[i]) := by
  obtain ⟨g, o, e, _, hc⟩ := h.2 (by omega)
  refine ⟨g, o, e, fun j u hu => ?_⟩
  rw [Nat.add_assoc]
  refine hc _ u ?_
  have : ∀ (l : List Rf) (i : Nat) (hi : i < l.length), (∀ r ∈ l, r.1.length = 32) → ∀ j u, (rfCells l[i])[j]? = some u → (flatRf l)[i * 35 + j]? = some u := by
    intro l
    induction l with
    | nil => intro i hi; simp at hi
    | cons r l ih =>
      intro i hi hs j u hu
      have hl := rfCells_len (hs r (by simp))
      show (rfCells r ++ flatRf l)[i * 35 + j]? = some u
      cases i with
      | zero =>
        have hj : j < 35 := by
          rcases Nat.lt_or_ge j 35 with h | h
          · exact h
          · rw [List.getElem?_eq_none (by simpa [hl] using h)] at hu; cases hu
        rw [Nat.zero_mul, Nat.zero_add, List.getElem?_append_left (by omega)]
        exact hu
      | succ i =>
        rw [List.getElem?_append_right (by omega), hl, show (i + 1) * 35 + j - 35 = i * 35 + j by omega]
        exact ih i (by simpa using hi) (fun q hq => hs q (by simp [hq])) j u hu
  exact this l i hi hs j u hu
set_option maxRecDepth 20000 in
set_option maxHeartbeats 8000000 in
theorem Put_c (r : Rf) (hk : RfOk r) (A : Option Addr) (c : Nat) (w : World) (hr : RV 64 w A 1 (flatRf [r])) :
    Calls Tryz.prog 83 #[.slice A 1 c] w fun e w' => ∃ v, e = .returned (.tuple #[v, .int .i64 0]) ∧ Below w.heap.size w w' := by
  have HR := Lib.hid hr
  have hba : Below w.heap.size w (w.alloc (.cells #[.int .i64 1] 3)) := (Below.refl _ _).alloc (Nat.le_refl _) _
  have hrv : RV 3 (w.alloc (.cells #[.int .i64 1] 3)) (some ⟨w.heap.size, 0, none⟩) [1].length ([1].map (encN .i64)) := RV_new _ w _ _ (by decide)
  have HRV := Lib.hid hrv
  have HBA := Lib.hid hba
  have hsa := hba.size
  clear hr hba hrv
  go_enter Tryz.func83, Tryz.ntmps83
  go_wp2_with fail
  refine (nums_c w.heap.size (.slice none 0 0) [] (some ⟨w.heap.size, 0, none⟩) 1 [1] _ (OwnN.nil _ _ _ _) hsa HRV.out (by simp) (by decide) (by simp)).mono ?_
  rintro e w1 ⟨v1, ys1, rfl, ho1, hl1, hg1, hat1⟩
  have hb1 : Below w.heap.size w w1 := HBA.out.trans (hg1.below hsa (fun x hx => by cases hx))
  have HO1 := Lib.hid ho1
  have HB1 := Lib.hid hb1
  have hl1' : ys1.length ≤ 1000001 := by simpa using hl1
  clear ho1 hg1 hat1 hb1 hl1
  go_wp2_with fail
  go_loopw [4, 16] (fun vb vi W => ∃ (i : Nat) (ys : List Nat), i ≤ 1 ∧ vi = .int .i64 (i : Nat) ∧ ys.length ≤ 1000001 + 4000000 * i ∧ OwnN .u8 5 W w.heap.size vb ys ∧ Below w.heap.size w W) (fun _ vi _ => 1 - (intOf vi).toNat)
  case atStart => exact ⟨0, ys1, by omega, rfl, by omega, HO1.out, HB1.out⟩
  case round =>
    obtain ⟨i, T, hi, rfl, hT0, ho, hB⟩ := hrel
    obtain ⟨A3, c3, e3, hc3, _⟩ := ho.reads
    subst e3
    have HO := Lib.hid ho
    have HB := Lib.hid hB
    have hs := hB.size
    clear ho hB
    by_cases hlt : i < 1
    · obtain rfl : i = 0 := by omega
      have hra := HR.out.below HB.out
      obtain ⟨g, o, eA, hrange⟩ := RV.ref (l := [r]) hra (by simpa using hk.1) 0 (by simp)
      subst eA
      simp only [List.getElem_cons_zero, Nat.zero_mul, Nat.add_zero] at hrange
      obtain ⟨Cl, hCl⟩ : ∃ Cl, rfCells r = Cl := ⟨_, rfl⟩
      have hlen := rfCells_len hk.1
      have hone := rfCells_one r
      have hrc := right_c r hk
      rw [hCl] at hrange hlen hone hrc
      have hinf : (Tryz.prog.info? 64).map (·.size) = some Cl.length := by rw [hlen]; exact infoRf
      have hinf2 : (Tryz.prog.info? 64).map (·.size) = some Cl.toArray.size := by rw [List.size_toArray, hlen]; exact infoRf
      have hzs : zeroRf.size = Cl.toArray.size := zeroRf_size.trans (by rw [List.size_toArray, hlen])
      have HRG := Lib.hid hrange
      have HI := Lib.hid hinf
      have HI2 := Lib.hid hinf2
      have HC1 := Lib.hid (Go.all_oneCell_toArray hone)
      have HZS := Lib.hid hzs
      have HRC := Lib.hid hrc
      have HCL := Lib.hid hCl
      have hz := zeroRf_eq
      have hgz : (wr.alloc (.cells zeroRf 64)).heap[wr.heap.size]? = some (.cells zeroRf 64 (0, 0)) := heap_alloc_new _ _
      have HGZ := Lib.hid hgz
      clear hra hrange hCl hlen hone hrc hinf hinf2 hzs hgz
      go_wp2_with (first
        | (refine wpList_load_mid rfl 64 (.tmp 18) rfl g o rfl Cl _ HRG.out Tryz.underlying64 (by rfl) HI.out ?_)
        | (refine wpList_store_row rfl 64 (.tmp 6) (.tmp 19) rfl wr.heap.size rfl Cl.toArray zeroRf rfl 64 HGZ.out HI2.out HZS.out HC1.out ?_)
        | (refine wpList_load_row rfl 64 (.tmp 6) rfl wr.heap.size rfl 64 Cl.toArray (0, 0) _ (setRow_heap _ _ _ Cl.toArray _ _ HGZ.out) Tryz.underlying64 (by rfl) HI2.out ?_))
      have hgs := setRow_heap _ _ _ Cl.toArray _ _ HGZ.out
      have hbs : Below wr.heap.size wr ((wr.alloc (.cells zeroRf 64)).setRow wr.heap.size Cl.toArray) := below_setRow ((Below.refl _ _).alloc (Nat.le_refl _) _) (Nat.le_refl _) _
      have hss : ((wr.alloc (.cells zeroRf 64)).setRow wr.heap.size Cl.toArray).heap.size = wr.heap.size + 1 := by simp [World.setRow]
      generalize (wr.alloc (.cells zeroRf 64)).setRow wr.heap.size Cl.toArray = w2 at hgs hbs hss ⊢
      refine (HRC.out w2).mono ?_
      rintro e ws ⟨rfl, hb3⟩
      obtain ⟨gs, hgse⟩ : ∃ gs, wr.heap.size = gs := ⟨_, rfl⟩
      have hgs3 := (hb3.block wr.heap.size (by omega)).trans hgs
      have hbs3 := hbs.trans (hb3.mono (by omega))
      rw [hgse] at hgs3 ⊢
      have h32 := hk.1
      have e0 := rfCells_hi h32 0
      have e1 := rfCells_hi h32 1
      have e2 := rfCells_hi h32 2
      have elo := fun j hj => rfCells_lo (r := r) j hj
      rw [HCL.out] at e0 e1 e2 elo
      have hrs : RN .u8 ws (some ⟨gs, 0, none⟩) r.1 := RN.ofRowAt hgs3 (fun j h => elo j h) (by rw [h32]; decide)
      have hx3 : ∀ x ∈ [r.2.1, r.2.2.1, r.2.2.2], x ≤ 1000000 := by
        obtain ⟨_, _, _, h2, h3, h4⟩ := hk
        intro x hx
        simp only [List.mem_cons, List.not_mem_nil, or_false] at hx
        rcases hx with rfl | rfl | rfl <;> omega
      obtain ⟨q, hqe⟩ : ∃ q, r.1 = q := ⟨_, rfl⟩
      obtain ⟨a, ha⟩ : ∃ a, r.2.1 = a := ⟨_, rfl⟩
      obtain ⟨b, hb⟩ : ∃ b, r.2.2.1 = b := ⟨_, rfl⟩
      obtain ⟨s, hse⟩ : ∃ s, r.2.2.2 = s := ⟨_, rfl⟩
      rw [ha, hb, hse] at e0 e1 e2 hx3
      rw [hqe] at hrs h32
      have hql : q.length = 32 := h32
      have k0 : ws.cell? ⟨gs, 32, none⟩ = some (.int .i64 (a : Nat)) := by rw [cell_of_row _ _ _ _ _ _ hgs3]; exact e0
      have k1 : ws.cell? ⟨gs, 33, none⟩ = some (.int .i64 (b : Nat)) := by rw [cell_of_row _ _ _ _ _ _ hgs3]; exact e1
      have k2 : ws.cell? ⟨gs, 34, none⟩ = some (.int .i64 (s : Nat)) := by rw [cell_of_row _ _ _ _ _ _ hgs3]; exact e2
      have hbw : Below w.heap.size w ws := HB.out.trans (hbs3.mono hs)
      have hs1 := hbw.size
      have hO1 : OwnN .u8 5 ws w.heap.size (.slice A3 T.length c3) T := HO.out.kept hbs3
      have HGS := Lib.hid hgs3
      have HRS := Lib.hid hrs
      have HO1 := Lib.hid hO1
      have HB1 := Lib.hid hbw
      have hgs0 := (Array.getElem?_eq_some_iff.1 hgs3).1
      clear HO HR HB HRG HCL HI HI2 HZS HGZ HRC hz hrs hO1 hbw hbs hbs3 hgs hgs3 hgse hss hb3 e0 e1 e2 elo h32 hqe ha hb hse hk
      go_wp2_with fail
      refine wp_region_late [5, 7, 9] (fun w' => w'.cell? ⟨gs, 32, none⟩ = some (.int .i64 (a : Nat)) ∧ w'.cell? ⟨gs, 33, none⟩ = some (.int .i64 (b : Nat)) ∧ w'.cell? ⟨gs, 34, none⟩ = some (.int .i64 (s : Nat))) (by kernel_rfl) ⟨k0, k1, k2⟩ (fun hT => ?_)
      refine WL.take (i := 0) (v := ?_) rfl (by kernel_rfl) (by kernel_rfl) (by kernel_rfl) (by kernel_rfl) (fun _ _ _ h => h) (Or.inl ⟨by rfl, ?_⟩) (by assumption) ?_
      rotate_left 1
      · (intro w' hSw; (try (replace hSw := hSw (by decide); dsimp only at hSw)); go_split_ands; go_simp; try with_reducible rfl)
      simp only [Act.put, List.getElem_toArray, List.getElem_cons_zero, List.getElem_cons_succ, List.setIfInBounds_toArray, List.set_cons_zero, List.set_cons_succ]
      refine WL.take (i := 1) (v := ?_) rfl (by kernel_rfl) (by kernel_rfl) (by kernel_rfl) (by kernel_rfl) (fun _ _ _ h => h) (Or.inl ⟨by rfl, ?_⟩) (by assumption) ?_
      rotate_left 1
      · (intro w' hSw; (try (replace hSw := hSw (by decide); dsimp only at hSw)); go_split_ands; go_simp; try with_reducible rfl)
      simp only [Act.put, List.getElem_toArray, List.getElem_cons_zero, List.getElem_cons_succ, List.setIfInBounds_toArray, List.set_cons_zero, List.set_cons_succ]
      refine WL.take (i := 2) (v := ?_) rfl (by kernel_rfl) (by kernel_rfl) (by kernel_rfl) (by kernel_rfl) (fun _ _ _ h => h) (Or.inl ⟨by rfl, ?_⟩) (by assumption) ?_
      rotate_left 1
      · (intro w' hSw; (try (replace hSw := hSw (by decide); dsimp only at hSw)); go_split_ands; go_simp; try with_reducible rfl)
      simp only [Act.put, List.getElem_toArray, List.getElem_cons_zero, List.getElem_cons_succ, List.setIfInBounds_toArray, List.set_cons_zero, List.set_cons_succ]
      refine WL.take (i := 4) (v := ?_) rfl (by kernel_rfl) (by kernel_rfl) (by kernel_rfl) (by kernel_rfl) (fun _ _ _ h => h) (Or.inl ⟨by rfl, ?_⟩) (by assumption) ?_
      rotate_left 1
      · (intro w' hSw; (try (replace hSw := hSw (by decide); dsimp only at hSw)); go_split_ands; go_simp; try with_reducible rfl)
      simp only [Act.put, List.getElem_toArray, List.getElem_cons_zero, List.getElem_cons_succ, List.setIfInBounds_toArray, List.set_cons_zero, List.set_cons_succ]
      refine WL.take (i := 5) (v := ?_) rfl (by kernel_rfl) (by kernel_rfl) (by kernel_rfl) (by kernel_rfl) (fun _ _ _ h => h) (Or.inl ⟨by rfl, ?_⟩) (by assumption) ?_
      rotate_left 1
      · (intro w' hSw; (try (replace hSw := hSw (by decide); dsimp only at hSw)); go_split_ands; go_simp; try with_reducible rfl)
      simp only [Act.put, List.getElem_toArray, List.getElem_cons_zero, List.getElem_cons_succ, List.setIfInBounds_toArray, List.set_cons_zero, List.set_cons_succ]
      refine WL.take (i := 6) (v := ?_) rfl (by kernel_rfl) (by kernel_rfl) (by kernel_rfl) (by kernel_rfl) (fun _ _ _ h => h) (Or.inl ⟨by rfl, ?_⟩) (by assumption) ?_
      rotate_left 1
      · (intro w' hSw; (try (replace hSw := hSw (by decide); dsimp only at hSw)); go_split_ands; go_simp; try with_reducible rfl)
      simp only [Act.put, List.getElem_toArray, List.getElem_cons_zero, List.getElem_cons_succ, List.setIfInBounds_toArray, List.set_cons_zero, List.set_cons_succ]
      refine WL.take (i := 7) (v := ?_) rfl (by kernel_rfl) (by kernel_rfl) (by kernel_rfl) (by kernel_rfl) (fun _ _ _ h => h) (Or.inl ⟨by rfl, ?_⟩) (by assumption) ?_
      rotate_left 1
      · (intro w' hSw; (try (replace hSw := hSw (by decide); dsimp only at hSw)); go_split_ands; go_simp; try with_reducible rfl)
      simp only [Act.put, List.getElem_toArray, List.getElem_cons_zero, List.getElem_cons_succ, List.setIfInBounds_toArray, List.set_cons_zero, List.set_cons_succ]
      refine WL.take (i := 8) (v := ?_) rfl (by kernel_rfl) (by kernel_rfl) (by kernel_rfl) (by kernel_rfl) (fun _ _ _ h => h) (Or.inl ⟨by rfl, ?_⟩) (by assumption) ?_
      rotate_left 1
      · (intro w' hSw; (try (replace hSw := hSw (by decide); dsimp only at hSw)); go_split_ands; go_simp; try with_reducible rfl)
      simp only [Act.put, List.getElem_toArray, List.getElem_cons_zero, List.getElem_cons_succ, List.setIfInBounds_toArray, List.set_cons_zero, List.set_cons_succ]
      refine WL.take (i := 9) (v := ?_) rfl (by kernel_rfl) (by kernel_rfl) (by kernel_rfl) (by kernel_rfl) (fun _ _ _ h => h) (Or.inl ⟨by rfl, ?_⟩) (by assumption) ?_
      rotate_left 1
      · (intro w' hSw; (try (replace hSw := hSw (by decide); dsimp only at hSw)); go_split_ands; go_simp; try with_reducible rfl)
      simp only [Act.put, List.getElem_toArray, List.getElem_cons_zero, List.getElem_cons_succ, List.setIfInBounds_toArray, List.set_cons_zero, List.set_cons_succ]
      refine WL.two (i := 3) (j := 10) (by kernel_rfl) rfl rfl (fun K hK => ?_) (fun K hK => ?_)
      · have hb5 : Below ws.heap.size ws ws.drew := (Below.refl _ _).drew
        have hs5 := hs1
        rw [if_pos (by rfl)]
        refine wp_append_NN w.heap.size (.tmp 23) (.tmp 25) 25 5 .u8 1 (by rfl) Tryz.underlying25 info_u8 (by decide) _ T q (some ⟨gs, 0, none⟩) 32 (by rfl) (by rw [hql]; rfl) (HO1.out.kept hb5) (HRS.out.below hb5) hs5 (by omega) ?_
        intro v7 w7 ho7 hg7 _
        replace hg7 : ws.grownBy w7 (Value.slice A3 T.length c3).ownBlock := ⟨hg7.os, hg7.tape, hg7.output, hg7.size, hg7.block⟩
        have hgu := GrU.ofGrown HO1.out hg7
        have hb7 : Below w.heap.size w w7 := HB1.out.trans (hgu.below hs1)
        have hgs7 := (hgu.block gs hgs0 (.inr ⟨_, _, _, HGS.out, by decide⟩)).trans HGS.out
        have mv := fun o => cell_move (a := ⟨gs, o, none⟩) (hgu.block gs hgs0 (.inr ⟨_, _, _, HGS.out, by decide⟩))
        have hT7 := (⟨(mv 32).trans k0, (mv 33).trans k1, (mv 34).trans k2⟩ : w7.cell? ⟨gs, 32, none⟩ = some (.int .i64 (a : Nat)) ∧ w7.cell? ⟨gs, 33, none⟩ = some (.int .i64 (b : Nat)) ∧ w7.cell? ⟨gs, 34, none⟩ = some (.int .i64 (s : Nat)))
        go_simp
        refine hK.out _ _ (fun _ => hT7) ?_
        clear hK K hb5 hs5
        refine WL.one (i := 10) (by kernel_rfl) rfl (fun K hK => ?_)
        go_simp
        have hbn : Below w7.heap.size w7 (w7.alloc (.cells #[.int .i64 (a : Nat), .int .i64 (b : Nat), .int .i64 (s : Nat)] 3)) := (Below.refl _ _).alloc (Nat.le_refl _) _
        have ho8 := ho7.kept hbn
        have hp8 : RV 3 (w7.alloc (.cells #[.int .i64 (a : Nat), .int .i64 (b : Nat), .int .i64 (s : Nat)] 3)) (some ⟨w7.heap.size, 0, none⟩) 3 ([a, b, s].map (encN .i64)) := RV_new _ w7 _ 3 (by decide)
        have hb8 := hb7.trans (hbn.mono hb7.size)
        have hs8 := hb8.size
        have hc8 := fun o (v : Value) (h : w7.cell? ⟨gs, o, none⟩ = some v) => (hbn.cell (p := ⟨gs, o, none⟩) (Array.getElem?_eq_some_iff.1 hgs7).1).trans h
        have hT8 := (⟨hc8 _ _ hT7.1, hc8 _ _ hT7.2.1, hc8 _ _ hT7.2.2⟩ : (w7.alloc (.cells #[.int .i64 (a : Nat), .int .i64 (b : Nat), .int .i64 (s : Nat)] 3)).cell? ⟨gs, 32, none⟩ = some (.int .i64 (a : Nat)) ∧ (w7.alloc (.cells #[.int .i64 (a : Nat), .int .i64 (b : Nat), .int .i64 (s : Nat)] 3)).cell? ⟨gs, 33, none⟩ = some (.int .i64 (b : Nat)) ∧ (w7.alloc (.cells #[.int .i64 (a : Nat), .int .i64 (b : Nat), .int .i64 (s : Nat)] 3)).cell? ⟨gs, 34, none⟩ = some (.int .i64 (s : Nat)))
        refine hK.out _ _ (fun _ => hT8) ?_
        clear hK K hbn hT7 ho7 hg7 hgu hb7 hgs7 hT8 hc8 mv
        generalize w7.alloc (.cells #[.int .i64 (a : Nat), .int .i64 (b : Nat), .int .i64 (s : Nat)] 3) = w8 at ho8 hp8 hb8 hs8 ⊢
        generalize w7.heap.size = gl at hp8 ⊢
        refine WL.late (i := 11) (by kernel_rfl) rfl (by kernel_rfl) (fun K hK => ?_)
        go_simp
        go_at_call 124
        refine (nums_c w.heap.size _ (T ++ q) (some ⟨gl, 0, none⟩) 3 [a, b, s] _ ho8 hs8 hp8 hx3 (by simp) (by rw [List.length_append, hql]; omega)).mono ?_
        rintro e w9 ⟨v9, ys9, rfl, ho9, hl9, hg9, hat9⟩
        have hb9 := hb8.trans (hg9.below hs8 (fun x hx => (ho8.typed x hx).1))
        rw [List.length_append, hql] at hl9
        have hl9' : ys9.length ≤ 1000001 + 4000000 * 1 := by simp at hl9; omega
        clear ho8 hp8 hs8 hb8 hg9 hat9 hl9
        go_simp
        refine hK.out _ _ ?_
        clear hK K
        refine WL.late (i := 12) (by kernel_rfl) rfl (by kernel_rfl) (fun K hK => ?_)
        go_simp
        refine hK.out _ _ ?_
        clear hK K
        refine WL.done (by kernel_rfl) ?_ _
        go_wp2_with fail
        exact ⟨⟨1, _, by omega, by go_num, hl9', ho9, hb9⟩, by simp [intOf]⟩
      · go_simp
        have hb5 : Below ws.heap.size ws (ws.alloc (.cells #[.int .i64 (a : Nat), .int .i64 (b : Nat), .int .i64 (s : Nat)] 3)).drew := ((Below.refl _ _).alloc (Nat.le_refl _) _).drew
        have hp5 : RV 3 (ws.alloc (.cells #[.int .i64 (a : Nat), .int .i64 (b : Nat), .int .i64 (s : Nat)] 3)).drew (some ⟨ws.heap.size, 0, none⟩) 3 ([a, b, s].map (encN .i64)) := RV_new _ ws _ 3 (by decide)
        have hs5 : w.heap.size ≤ (ws.alloc (.cells #[.int .i64 (a : Nat), .int .i64 (b : Nat), .int .i64 (s : Nat)] 3)).drew.heap.size := Nat.le_trans hs1 hb5.size
        have hc5 := fun o (v : Value) (h : ws.cell? ⟨gs, o, none⟩ = some v) => (hb5.cell (p := ⟨gs, o, none⟩) hgs0).trans h
        have hT5 := (⟨hc5 _ _ k0, hc5 _ _ k1, hc5 _ _ k2⟩ : (ws.alloc (.cells #[.int .i64 (a : Nat), .int .i64 (b : Nat), .int .i64 (s : Nat)] 3)).drew.cell? ⟨gs, 32, none⟩ = some (.int .i64 (a : Nat)) ∧ (ws.alloc (.cells #[.int .i64 (a : Nat), .int .i64 (b : Nat), .int .i64 (s : Nat)] 3)).drew.cell? ⟨gs, 33, none⟩ = some (.int .i64 (b : Nat)) ∧ (ws.alloc (.cells #[.int .i64 (a : Nat), .int .i64 (b : Nat), .int .i64 (s : Nat)] 3)).drew.cell? ⟨gs, 34, none⟩ = some (.int .i64 (s : Nat)))
        refine hK.out _ _ (fun _ => hT5) ?_
        clear hK K hc5
        generalize (ws.alloc (.cells #[.int .i64 (a : Nat), .int .i64 (b : Nat), .int .i64 (s : Nat)] 3)).drew = w5 at hb5 hp5 hs5 hT5 ⊢
        generalize ws.heap.size = gl at hp5 ⊢
        refine WL.one (i := 3) (by kernel_rfl) rfl (fun K hK => ?_)
        rw [if_pos (by rfl)]
        refine wp_append_NN w.heap.size (.tmp 23) (.tmp 25) 25 5 .u8 1 (by rfl) Tryz.underlying25 info_u8 (by decide) _ T q (some ⟨gs, 0, none⟩) 32 (by rfl) (by rw [hql]; rfl) (HO1.out.kept hb5) (HRS.out.below hb5) hs5 (by omega) ?_
        intro v7 w7 ho7 hg7 _
        have hgu := GrU.ofGrown (HO1.out.kept hb5) hg7
        have hb7 : Below w.heap.size w w7 := (HB1.out.trans (hb5.mono hs1)).trans (hgu.below hs5)
        have hgs5 := (hb5.block gs hgs0).trans HGS.out
        have mv := fun o => cell_move (a := ⟨gs, o, none⟩) (hgu.block gs (Array.getElem?_eq_some_iff.1 hgs5).1 (.inr ⟨_, _, _, hgs5, by decide⟩))
        have hT7 := (⟨(mv 32).trans hT5.1, (mv 33).trans hT5.2.1, (mv 34).trans hT5.2.2⟩ : w7.cell? ⟨gs, 32, none⟩ = some (.int .i64 (a : Nat)) ∧ w7.cell? ⟨gs, 33, none⟩ = some (.int .i64 (b : Nat)) ∧ w7.cell? ⟨gs, 34, none⟩ = some (.int .i64 (s : Nat)))
        have hp8 := hp5.move (W' := w7) (fun g cs x hh => hgu.block g (Array.getElem?_eq_some_iff.1 hh).1 (.inr ⟨_, _, _, hh, by decide⟩))
        have ho8 := ho7
        have hb8 := hb7
        have hs8 := hb8.size
        go_simp
        refine hK.out _ _ (fun _ => hT7) ?_
        clear hK K hb5 hp5 hs5 hT5 hgu hb7 hgs5 hT7 ho7 hg7 mv
        refine WL.late (i := 11) (by kernel_rfl) rfl (by kernel_rfl) (fun K hK => ?_)
        go_simp
        go_at_call 124
        refine (nums_c w.heap.size _ (T ++ q) (some ⟨gl, 0, none⟩) 3 [a, b, s] _ ho8 hs8 hp8 hx3 (by simp) (by rw [List.length_append, hql]; omega)).mono ?_
        rintro e w9 ⟨v9, ys9, rfl, ho9, hl9, hg9, hat9⟩
        have hb9 := hb8.trans (hg9.below hs8 (fun x hx => (ho8.typed x hx).1))
        rw [List.length_append, hql] at hl9
        have hl9' : ys9.length ≤ 1000001 + 4000000 * 1 := by simp at hl9; omega
        clear ho8 hp8 hs8 hb8 hg9 hat9 hl9
        go_simp
        refine hK.out _ _ ?_
        clear hK K
        refine WL.late (i := 12) (by kernel_rfl) rfl (by kernel_rfl) (fun K hK => ?_)
        go_simp
        refine hK.out _ _ ?_
        clear hK K
        refine WL.done (by kernel_rfl) ?_ _
        go_wp2_with fail
        exact ⟨⟨1, _, by omega, by go_num, hl9', ho9, hb9⟩, by simp [intOf]⟩
    · obtain rfl : i = 1 := by omega
      go_wp2_with fail
      go_ret2
      exact ⟨_, rfl, HB.out⟩
end Go.Proofs.YtbcamfbbooggfaaGreat.F
end
