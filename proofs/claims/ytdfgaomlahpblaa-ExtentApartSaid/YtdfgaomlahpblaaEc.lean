/- Words for extent's walks; a run is looked for. -/
import Derived.Test.YtdfgaomlahpblaaB
import Derived.Test.YtdfgaomlahpblaaEb
import Derived.Laws.OwnMore
set_option linter.unusedVariables false
set_option linter.unusedSimpArgs false
namespace Go.Proofs.Ytdfgaomlahpblaa.F
open Go.RowKit Go.Proofs.YtdfgaomlahpblaaW.PrintWords

theorem add_blk (a : Addr) (n : Nat) : (a.add n).block = a.block := by unfold Addr.add; split <;> rfl
theorem cell_move {W W' : World} {a : Addr} (h : W'.heap[a.block]? = W.heap[a.block]?) : W'.cell? a = W.cell? a := by simp [World.cell?, h]
/-- The blocks outside S are as they were. -/
structure Gr (S : Nat → Prop) (W W' : World) : Prop where
  os : W'.os = W.os
  tape : W'.tape = W.tape
  output : W'.output = W.output
  size : W.heap.size ≤ W'.heap.size
  block : ∀ k, k < W.heap.size → ¬ S k → W'.heap[k]? = W.heap[k]?
theorem Gr.refl (S : Nat → Prop) (W : World) : Gr S W W := ⟨rfl, rfl, rfl, Nat.le_refl _, fun _ _ _ => rfl⟩
theorem Gr.trans {S S' : Nat → Prop} {a b c : World} (h : Gr S a b) (k : Gr S' b c) (hs : ∀ x, x < a.heap.size → S' x → S x) : Gr S a c :=
  ⟨k.os.trans h.os, k.tape.trans h.tape, k.output.trans h.output, Nat.le_trans h.size k.size, fun i hi hn => (k.block i (Nat.lt_of_lt_of_le hi h.size) (fun hh => hn (hs i hi hh))).trans (h.block i hi hn)⟩
theorem Gr.mono {S S' : Nat → Prop} {a b : World} (h : Gr S a b) (hs : ∀ x, x < a.heap.size → S x → S' x) : Gr S' a b := ⟨h.os, h.tape, h.output, h.size, fun i hi hn => h.block i hi (fun hh => hn (hs i hi hh))⟩
theorem Gr.below {S : Nat → Prop} {a b : World} {B : Nat} (h : Gr S a b) (hB : B ≤ a.heap.size) (hs : ∀ x, S x → B ≤ x) : Below B a b := ⟨h.os, h.tape, h.output, h.size, fun k hk => h.block k (by omega) (fun hh => by have := hs k hh; omega)⟩
theorem Gr.of_below {W W' : World} (S : Nat → Prop) (h : Below W.heap.size W W') : Gr S W W' := ⟨h.os, h.tape, h.output, h.size, fun k hk _ => h.block k hk⟩
theorem Gr.of_grown {W W' : World} {row : Option Nat} {S : Nat → Prop} (h : W.grownBy W' row) (hs : ∀ k, row = some k → S k) : Gr S W W' := ⟨h.os, h.tape, h.output, h.size, fun k hk hn => h.block k hk (fun e => hn (hs k e.symm))⟩
theorem Gr.setCell {S : Nat → Prop} (W : World) (p : Addr) (u : Value) (hs : S p.block) : Gr S W (W.setCell p u) :=
  ⟨rfl, rfl, rfl, by simp, fun k hk hn => Below.heap_setCell W p u k (fun e => hn (e ▸ hs))⟩

/-- The cells of runs. -/
def rcells (r : Rn) : List Value := [.int .i64 (r.1 : Nat), .int .i64 (r.2 : Nat)]
def flatR : List Rn → List Value
  | [] => []
  | r :: l => .int .i64 (r.1 : Nat) :: .int .i64 (r.2 : Nat) :: flatR l
theorem flatR_len : ∀ l : List Rn, (flatR l).length = l.length * 2
  | [] => rfl
  | r :: l => by simp [flatR, flatR_len l]; omega
theorem flatR_append : ∀ l m : List Rn, flatR (l ++ m) = flatR l ++ flatR m
  | [], m => rfl
  | r :: l, m => by simp [flatR, flatR_append l m]
theorem flatR_take : ∀ (l : List Rn) (n : Nat), (flatR l).take (n * 2) = flatR (l.take n)
  | [], n => by simp [flatR]
  | r :: l, 0 => by simp [flatR]
  | r :: l, n + 1 => by rw [show (n + 1) * 2 = n * 2 + 1 + 1 by omega]; simp [flatR, flatR_take l n]
theorem flatR_drop : ∀ (l : List Rn) (n : Nat), (flatR l).drop (n * 2) = flatR (l.drop n)
  | [], n => by simp [flatR]
  | r :: l, 0 => by simp [flatR]
  | r :: l, n + 1 => by rw [show (n + 1) * 2 = n * 2 + 1 + 1 by omega]; simp [flatR, flatR_drop l n]
theorem flatR_get : ∀ (l : List Rn) (i : Nat) (h : i < l.length), (flatR l)[i * 2]? = some (.int .i64 (l[i].1 : Nat)) ∧ (flatR l)[i * 2 + 1]? = some (.int .i64 (l[i].2 : Nat))
  | [], i, h => by simp at h
  | r :: l, 0, h => ⟨rfl, rfl⟩
  | r :: l, i + 1, h => by
    have := flatR_get l i (by simpa using h)
    rw [show (i + 1) * 2 = i * 2 + 1 + 1 by omega]
    simpa [flatR] using this
theorem flatR_one : ∀ (l : List Rn), ∀ u ∈ flatR l, u.oneCell' = true
  | [], u, h => by simp [flatR] at h
  | r :: l, u, h => by
    simp only [flatR, List.mem_cons] at h
    rcases h with rfl | rfl | h
    · rfl
    · rfl
    · exact flatR_one l u h
/-- What a slice of runs reads as. -/
def RU (W : World) (A : Option Addr) (l : List Rn) : Prop :=
  l.length ≤ 9223372036854775807 ∧ (0 < l.length → ∃ g o, A = some ⟨g, o, none⟩ ∧ g < W.heap.size ∧ ∀ j u, (flatR l)[j]? = some u → W.cell? ⟨g, o + j, none⟩ = some u)
theorem RU.at {W : World} {A : Option Addr} {l : List Rn} (h : RU W A l) (i : Nat) (hi : i < l.length) : ∃ g o, A = some ⟨g, o, none⟩ ∧ g < W.heap.size ∧ W.cell? ⟨g, o + i * 2, none⟩ = some (.int .i64 (l[i].1 : Nat)) ∧ W.cell? ⟨g, o + i * 2 + 1, none⟩ = some (.int .i64 (l[i].2 : Nat)) := by
  obtain ⟨g, o, e, hg, hc⟩ := h.2 (by omega)
  obtain ⟨h1, h2⟩ := flatR_get l i hi
  exact ⟨g, o, e, hg, hc _ _ h1, by have := hc _ _ h2; rwa [← Nat.add_assoc] at this⟩
theorem RU.move {W W' : World} {A : Option Addr} {l : List Rn} (h : RU W A l) (hs : W.heap.size ≤ W'.heap.size) (hm : ∀ a, A = some a → a.block < W.heap.size → W'.heap[a.block]? = W.heap[a.block]?) : RU W' A l := by
  refine ⟨h.1, fun hp => ?_⟩
  obtain ⟨g, o, e, hg, hc⟩ := h.2 hp
  refine ⟨g, o, e, by omega, fun j u hu => ?_⟩
  exact (cell_move (a := ⟨g, o + j, none⟩) (hm ⟨g, o, none⟩ e hg)).trans (hc j u hu)
theorem RU.below {W W' : World} {A : Option Addr} {l : List Rn} (h : RU W A l) (hb : Below W.heap.size W W') : RU W' A l := h.move hb.size (fun a _ hk => hb.block _ hk)
theorem RU.nil (W : World) (A : Option Addr) : RU W A [] := ⟨by simp, fun h => by simp at h⟩
theorem RU.max {W : World} {A : Option Addr} {l : List Rn} (h : RU W A l) : (l.length : Int) ≤ 9223372036854775807 := by have := h.1; omega
/-- A row of runs of the call's own. -/
def OR (W : World) (base : Nat) (v : Value) (l : List Rn) : Prop := W.ownsRow base 38 2 v l.length (flatR l)
theorem OR.nil (W : World) (base : Nat) : OR W base (.slice none 0 0) [] := own_nil _ _ _ _
theorem OR.move {W W' : World} {base : Nat} {v : Value} {l : List Rn} (h : OR W base v l) (hm : ∀ k, v.ownBlock = some k → W'.heap[k]? = W.heap[k]?) : OR W' base v l := own_move h hm
theorem OR.below {W W' : World} {base : Nat} {v : Value} {l : List Rn} (h : OR W base v l) (hb : Below W.heap.size W W') : OR W' base v l := pw_own_below h hb
theorem OR.lower {W : World} {base b : Nat} {v : Value} {l : List Rn} (h : OR W base v l) (hb : b ≤ base) : OR W b v l := own_weaken h hb
theorem OR.reads {W : World} {base : Nat} {v : Value} {l : List Rn} (h : OR W base v l) : ∃ A c, v = .slice A l.length c ∧ l.length ≤ c ∧ RU W A l := by
  rcases h.2 with ⟨e, h0⟩ | ⟨g, cap, cur, e, hb, hh, hc, hm, hs, ht⟩
  · obtain rfl : l = [] := List.eq_nil_of_length_eq_zero h0
    exact ⟨none, 0, e, by simp, RU.nil _ _⟩
  · refine ⟨_, _, e, hc, by unfold maxLen at hm; omega, fun hp => ⟨g, 0, rfl, (Array.getElem?_eq_some_iff.1 hh).1, fun j u hu => ?_⟩⟩
    subst e
    have h2 := h.cells (g := g) rfl j u hu
    have e2 : (⟨g, 0, none⟩ : Addr).add j = ⟨g, j, none⟩ := by
      unfold Addr.add
      split
      · rename_i h0; subst h0; rfl
      · simp
    rw [e2] at h2
    rw [Nat.zero_add]
    exact h2
theorem OR.typed {W : World} {base : Nat} {v : Value} {l : List Rn} (h : OR W base v l) : ∀ k, v.ownBlock = some k → base ≤ k ∧ k < W.heap.size ∧ ∃ cs, W.heap[k]? = some (.cells cs 38 (0, 0)) := fun k hk => ⟨own_base h k hk, own_lt h k hk, own_typed h k hk⟩
theorem info_run : (Try.prog.info? 38).map (fun i => (i.zero, i.size, i.bytes)) = some (some (.agg #[.int .i64 0, .int .i64 0]), 2, 16) := by kernel_rfl

/-- A function value that says which runs are meant. -/
def PredB (g : Nat) (lb : Array Value) (p : Rn → Bool) (w : World) : Prop :=
  ∀ W (r : Rn), Below w.heap.size w W → r.1 + r.2 ≤ 4096 → Calls Try.prog g (#[.agg #[.int .i64 (r.1 : Nat), .int .i64 (r.2 : Nat)]] ++ lb) W fun e w' => e = .returned (.bool (p r)) ∧ Below W.heap.size W w'
/-- The first run that is meant, or -1. -/
def idxR (p : Rn → Bool) (l : List Rn) : Int := match l.findIdx? p with
  | some i => (i : Nat)
  | none => -1
theorem idxR_hit (p : Rn → Bool) (l : List Rn) (i : Nat) (h : i < l.length) (hp : p l[i] = true) (hb : ∀ j (hj : j < l.length), j < i → p l[j] = false) : idxR p l = (i : Nat) := by
  unfold idxR
  rw [show l.findIdx? p = some i from List.findIdx?_eq_some_iff_getElem.2 ⟨h, hp, fun j hj => by simpa using hb j (by omega) hj⟩]
theorem idxR_miss (p : Rn → Bool) (l : List Rn) (hb : ∀ j (hj : j < l.length), p l[j] = false) : idxR p l = -1 := by
  unfold idxR
  rw [show l.findIdx? p = none from List.findIdx?_eq_none_iff.2 (fun x hx => by obtain ⟨j, hj, rfl⟩ := List.getElem_of_mem hx; exact hb j hj)]
theorem idxR_cases (p : Rn → Bool) (l : List Rn) : (idxR p l = -1 ∧ ∀ r ∈ l, p r = false) ∨ ∃ i, ∃ h : i < l.length, idxR p l = (i : Nat) ∧ p l[i] = true ∧ ∀ j (hj : j < l.length), j < i → p l[j] = false := by
  by_cases h : ∃ i, ∃ h : i < l.length, p l[i] = true
  · cases hf : l.findIdx? p with
    | none =>
      obtain ⟨i, hi, hp⟩ := h
      have := List.findIdx?_eq_none_iff.1 hf l[i] (List.getElem_mem hi)
      rw [hp] at this
      cases this
    | some i =>
      obtain ⟨h1, h2, h3⟩ := List.findIdx?_eq_some_iff_getElem.1 hf
      exact .inr ⟨i, h1, by unfold idxR; rw [hf], h2, fun j hj hji => by simpa using h3 j hji⟩
  · refine .inl ⟨idxR_miss p l (fun j hj => by cases e : p l[j] with
      | false => rfl
      | true => exact absurd ⟨j, hj, e⟩ h), fun r hr => ?_⟩
    obtain ⟨j, hj, rfl⟩ := List.getElem_of_mem hr
    cases e : p l[j] with
    | false => rfl
    | true => exact absurd ⟨j, hj, e⟩ h
set_option maxRecDepth 20000 in
set_option maxHeartbeats 4000000 in
theorem IndexFunc_c (A : Option Addr) (c g : Nat) (lb : Array Value) (p : Rn → Bool) (l : List Rn) (w : World) (hr : RU w A l) (hl : ∀ r ∈ l, r.1 + r.2 ≤ 4096) (hp : PredB g lb p w)
    (eg : ∀ args W, Sem.run Try.prog (callFunc g args) W = .ok (.enter g args) W) :
    Calls Try.prog 26 #[.slice A l.length c, .func (.func g) #[] lb] w fun e w' => e = .returned (.int .i64 (idxR p l)) ∧ Below w.heap.size w w' := by
  have hmx := hr.max
  obtain ⟨r, hrr⟩ : ∃ r, idxR p l = r := ⟨_, rfl⟩
  rw [hrr]
  have HRR := Lib.hid hrr
  have HR := Lib.hid hr
  have HL := Lib.hid hl
  have HP := Lib.hid hp
  clear hrr hr hl hp
  go_enter Try.func26, Try.ntmps26
  go_wp2_with fail
  go_loopw [8] (fun vi W => ∃ i : Nat, i ≤ l.length ∧ vi = .int .i64 i ∧ (∀ j (hj : j < l.length), j < i → p l[j] = false) ∧ Below w.heap.size w W) (fun vi _ => l.length - (intOf vi).toNat)
  case atStart => exact ⟨0, by omega, rfl, fun j _ h => by omega, Below.refl _ _⟩
  case round =>
    obtain ⟨i, hi, rfl, hall, hB⟩ := hrel
    have HALL := Lib.hid hall
    have HB := Lib.hid hB
    clear hall hB
    by_cases hlt : i < l.length
    · have hd : decide ((i : Int) < l.length) = true := decide_eq_true (by omega)
      obtain ⟨gb, o, e, hg, c1, c2⟩ := (HR.out.below HB.out).at i hlt
      subst e
      have i0 : (0 : Int) ≤ (i : Int) := by omega
      have i1 : (i : Int) < (l.length : Int) := by omega
      have hcall := HP.out wr l[i] HB.out (HL.out _ (List.getElem_mem hlt))
      have hhit := fun h => idxR_hit p l i hlt h (fun j hj hji => HALL.out j hj hji)
      have hnext : p l[i] = false → ∀ j (hj : j < l.length), j < i + 1 → p l[j] = false := fun h j hj hji => by
        by_cases e : j = i
        · subst e; exact h
        · exact HALL.out j hj (by omega)
      obtain ⟨⟨xa, xn⟩, hx⟩ : ∃ x, l[i] = x := ⟨_, rfl⟩
      rw [hx] at c1 c2 hcall hhit hnext
      obtain ⟨b, hb⟩ : ∃ b, p (xa, xn) = b := ⟨_, rfl⟩
      rw [hb] at hcall hhit hnext
      dsimp only at c1 c2 hcall
      have HHIT := Lib.hid hhit
      have HNEXT := Lib.hid hnext
      have HCALL := Lib.hid hcall
      have hsz := HB.out.size
      clear hx hb hhit hnext hcall
      go_wp2_with fail
      refine HCALL.out.mono ?_
      rintro e w2 ⟨rfl, hb2⟩
      have HB2 := Lib.hid (HB.out.trans (hb2.mono hsz))
      clear hb2
      cases b with
      | true =>
        have hr2 : r = (i : Nat) := by rw [← HRR.out]; exact HHIT.out (by first | rfl | trivial)
        have HR2 := Lib.hid hr2
        clear hr2
        go_wp2_with fail
        go_ret
        rw [HR2.out]
        exact ⟨rfl, HB2.out⟩
      | false =>
        have hn := HNEXT.out (by first | rfl | trivial)
        have HN := Lib.hid hn
        clear hn
        go_wp2_with fail
        exact ⟨⟨i + 1, by omega, by go_num, HN.out, HB2.out⟩, by simp [intOf]; omega⟩
    · have hd : decide ((i : Int) < l.length) = false := decide_eq_false (by omega)
      obtain rfl : i = l.length := by omega
      have hr2 : r = -1 := by rw [← HRR.out]; exact idxR_miss p l (fun j hj => HALL.out j hj hj)
      have HR2 := Lib.hid hr2
      clear hr2
      go_wp2_with fail
      go_ret
      rw [HR2.out]
      exact ⟨rfl, HB.out⟩
theorem ContainsFunc_c (A : Option Addr) (c g : Nat) (lb : Array Value) (p : Rn → Bool) (l : List Rn) (w : World) (hr : RU w A l) (hl : ∀ r ∈ l, r.1 + r.2 ≤ 4096) (hp : PredB g lb p w)
    (eg : ∀ args W, Sem.run Try.prog (callFunc g args) W = .ok (.enter g args) W) :
    Calls Try.prog 30 #[.slice A l.length c, .func (.func g) #[] lb] w fun e w' => e = .returned (.bool (decide (0 ≤ idxR p l))) ∧ Below w.heap.size w w' := by
  have hidx := IndexFunc_c A c g lb p l w hr hl hp eg
  obtain ⟨r, hrr⟩ : ∃ r, idxR p l = r := ⟨_, rfl⟩
  rw [hrr] at hidx ⊢
  have HIDX := Lib.hid hidx
  clear hidx hrr hp eg hr hl
  go_enter Try.func30, Try.ntmps30
  go_wp2_with fail
  refine HIDX.out.mono ?_
  rintro e w' ⟨rfl, hb⟩
  have HB := Lib.hid hb
  clear hb
  go_wp2_with fail
  go_ret
  exact ⟨rfl, HB.out⟩
end Go.Proofs.Ytdfgaomlahpblaa.F
