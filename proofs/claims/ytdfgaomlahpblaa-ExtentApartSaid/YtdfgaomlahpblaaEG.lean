/- What is taken is no one else's: a map of owners beside the runs. -/
import Derived.Test.YtdfgaomlahpblaaEF
import Derived.Test.YtdfgaomlahpblaaRk
import Derived.Maps.OwnSet
set_option linter.unusedVariables false
set_option linter.unusedSimpArgs false
namespace Go.Proofs.Ytdfgaomlahpblaa.F
open Go.RowKit Go.Proofs.YtdfgaomlahpblaaW.PrintWords

theorem lawInt : Maps.Keyed Try.prog 3 := Maps.int_keyed Try.underlying3
theorem zeroInt (w : World) : (zeroValue 3).run Try.prog w = .ok (.int .i64 0) w := by kernel_rfl
/-- The owners' map. -/
def OM (W : World) (B n : Nat) (D : DataW Unit) : Prop := W.ownsMap Try.prog 3 (plainElem (H := Unit) Try.prog 3) B n D
theorem OM.at {W : World} {B n : Nat} {D : DataW Unit} (h : OM W B n D) : ∃ es c, W.heap[B]? = some (.map es c) := by
  obtain ⟨es, c, h, _⟩ := h
  exact ⟨es, c, h⟩
theorem OM.lt {W : World} {B n : Nat} {D : DataW Unit} (h : OM W B n D) : B < W.heap.size := by
  obtain ⟨es, c, h⟩ := h.at
  exact (Array.getElem?_eq_some_iff.1 h).1
theorem OM.gr {W W' : World} {B n b : Nat} {D : DataW Unit} (h : OM W B n D) (hg : Gr (fun k => k = b) W W') (hne : B ≠ b) : OM W' B n D :=
  World.ownsMap.kept h (w' := W') (row := some b) ⟨hg.os, hg.tape, hg.output, hg.size, fun i hi hn => hg.block i hi (fun e => hn (by rw [e]))⟩ (fun e => hne (by injection e))
theorem OM.below {W W' : World} {B n : Nat} {D : DataW Unit} (h : OM W B n D) (hb : Below W.heap.size W W') : OM W' B n D :=
  World.ownsMap.kept h (w' := W') (row := none) ⟨hb.os, hb.tape, hb.output, hb.size, fun i hi _ => hb.block i hi⟩ (by simp)
theorem EM.turned {W W' : World} {base b f t B n : Nat} {l : List Rn} {D : DataW Unit} (h : EM W base b f t l) (ho : OM W B n D) (hg : W.grownBy W' (some B)) : EM W' base b f t l := by
  obtain ⟨es, c, hB⟩ := ho.at
  have hb : b ≠ B := fun e => by
    obtain ⟨v, h1, _⟩ := h
    have h1' : W.heap[b]? = some (Obj.cells _ _ _) := h1
    rw [e, hB] at h1'
    cases h1'
  refine h.move fun k hk hh => hg.block k hk (fun e => ?_)
  injection e with e
  rcases hh with rfl | ⟨_, cs, hcs⟩
  · exact hb e
  · rw [e, hB] at hcs
    cases hcs
theorem EM.neB {W : World} {base b f t B n : Nat} {l : List Rn} {D : DataW Unit} (h : EM W base b f t l) (ho : OM W B n D) : B ≠ b := fun e => by
  obtain ⟨es, c, hB⟩ := ho.at
  obtain ⟨v, h1, _⟩ := h
  have h1' : W.heap[b]? = some (Obj.cells _ _ _) := h1
  rw [← e, hB] at h1'
  cases h1'
/-- The owners' map has just the taken ones. -/
def Tied (D : DataW Unit) (f : Nat) (T : List Bool) : Prop := (∀ j, j < T.length → Maps.has D (.int .i64 ((f + j : Nat) : Int)) = T.getD j true) ∧ Maps.size D = T.countP (fun b => b)
theorem getD_at {T : List Bool} {j : Nat} (h : j < T.length) : T.getD j true = T[j] := by simp [List.getD_eq_getElem?_getD, h]
theorem Tied.put {D : DataW Unit} {f : Nat} {T : List Bool} (h : Tied D f T) (ht : Maps.Tidy D) (j : Nat) (hj : j < T.length) (hf : T.getD j true = false) (d : DataW Unit) : Tied (D.put (.int .i64 ((f + j : Nat) : Int)) d) f (T.set j true) := by
  refine ⟨fun i hi => ?_, ?_⟩
  · rw [List.length_set] at hi
    by_cases hij : i = j
    · subst hij
      rw [Maps.has_put_same (k := .int .i64 ((f + i : Nat) : Int)) ht.isMap trivial, getD_at (by simpa using hi)]
      simp
    · rw [Maps.has_put_other (by intro e; injection e with _ e; omega), h.1 i hi, getD_at hi, getD_at (by simpa using hi), List.getElem_set_ne (by omega)]
  · have hn := h.1 j hj
    rw [hf] at hn
    rw [Maps.size_put ht, hn, if_neg (by simp), h.2, List.countP_set hj]
    rw [getD_at hj] at hf
    rw [hf]
    simp
theorem Tied.del {D : DataW Unit} {f : Nat} {T : List Bool} (h : Tied D f T) (ht : Maps.Tidy D) (j : Nat) (hj : j < T.length) (hf : T.getD j true = true) : Tied (D.del (.int .i64 ((f + j : Nat) : Int))) f (T.set j false) := by
  refine ⟨fun i hi => ?_, ?_⟩
  · rw [List.length_set] at hi
    by_cases hij : i = j
    · subst hij
      rw [Maps.has_del_same, getD_at (by simpa using hi)]
      simp
    · rw [Maps.has_del_other (by intro e; injection e with _ e; omega), h.1 i hi, getD_at hi, getD_at (by simpa using hi), List.getElem_set_ne (by omega)]
  · have hn := h.1 j hj
    rw [hf] at hn
    have := Maps.size_del ht (k := .int .i64 ((f + j : Nat) : Int))
    rw [hn, if_pos rfl, h.2] at this
    have e : Maps.size (D.del (.int .i64 ((f + j : Nat) : Int))) = T.countP (fun b => b) - 1 := by omega
    rw [List.countP_set hj, e]
    rw [getD_at hj] at hf
    rw [hf]
    simp
theorem setT_next (T : List Bool) (a j : Nat) (y : Bool) (h : a + j < T.length) : setT T a (j + 1) y = (setT T a j y).set (a + j) y := by
  refine List.ext_getElem (by simp [setT]) fun i h1 h2 => ?_
  simp only [setT, List.getElem_mapIdx, List.getElem_set]
  by_cases h3 : a + j = i
  · rw [if_pos (by omega), if_pos h3]
  · rw [if_neg h3]
    by_cases h4 : a ≤ i ∧ i - a < j
    · rw [if_pos (by omega), if_pos h4]
    · rw [if_neg (by omega), if_neg h4]
theorem setT_none (T : List Bool) (a : Nat) (y : Bool) : setT T a 0 y = T := by
  refine List.ext_getElem (by simp [setT]) fun i h1 h2 => ?_
  simp [setT]
theorem setT_undo (T : List Bool) (a n : Nat) (h : ∀ j, a ≤ j → j < a + n → T.getD j true = false) : setT (setT T a n true) a n false = T := by
  refine List.ext_getElem (by simp [setT]) fun i h1 h2 => ?_
  have h3 : i < T.length := h2
  simp only [setT, List.getElem_mapIdx]
  by_cases h4 : a ≤ i ∧ i - a < n
  · have := h i (by omega) (by omega)
    rw [getD_at h3] at this
    rw [if_pos h4, this]
  · rw [if_neg h4, if_neg h4]
/-- What a taken run's sectors were. -/
theorem Rel.free {f : Nat} {T : List Bool} {l : List Rn} (h : Rel f T l) {i a m : Nat} (hi : i < l.length) (hm : 0 < m) (hf : f ≤ a) (hc : Rel f (setT T (a - f) m true) (cutL l i a m)) (h9 : (giveF f (f + T.length) (cutL l i a m) a m) = (0, l)) (hT : a + m ≤ f + T.length) :
    ∀ j, a - f ≤ j → j < a - f + m → T.getD j true = false := by
  have hg := hc.give a m hm hf (by rw [setT_len]; exact hT) (by
    intro r hr hh
    unfold giveF at h9
    have hw : withinB f (f + T.length) a m = true := by unfold withinB; exact decide_eq_true (by omega)
    rw [hw, if_neg (by simp)] at h9
    split at h9
    · simp at h9
    · rename_i h0
      apply h0
      rcases idxR_find (fun r => decide ((r.1 : Int) < (a : Int) + m) && decide ((a : Int) < (r.1 : Int) + r.2)) (cutL l i a m) with ⟨_, hn⟩ | ⟨k, _, e, _⟩
      · have := List.findIdx?_eq_none_iff.1 hn r hr
        simp at this
        omega
      · rw [e]; omega)
  have hw : withinB f (f + T.length) a m = true := by unfold withinB; exact decide_eq_true (by omega)
  unfold giveF at h9
  rw [hw, if_neg (by simp)] at h9
  split at h9
  · simp at h9
  · have e : giveL (cutL l i a m) a m = l := by simpa using h9
    rw [e] at hg
    intro j h1 h2
    have hj : j < T.length := by omega
    have hx := (hg.2 (f + j)).2 ⟨j, by rw [setT_len, setT_len]; exact hj, rfl, by rw [setT_get _ _ _ _ _ (by rw [setT_len]; exact hj), if_pos (by omega)]⟩
    obtain ⟨j', q1, q2, q3⟩ := (h.2 (f + j)).1 hx
    obtain rfl : j' = j := by omega
    exact q3
/-- What a row of ints of an argument reads as. -/
def RI (W : World) (A : Option Addr) (n : Nat) : Prop := n ≤ 9223372036854775807 ∧ (0 < n → ∃ g o, A = some ⟨g, o, none⟩ ∧ g < W.heap.size ∧ ∀ i, i < n → ∃ x : Int, W.cell? ⟨g, o + i, none⟩ = some (.int .i64 x))
theorem RI.below {W W' : World} {A : Option Addr} {n : Nat} (h : RI W A n) (hb : Below W.heap.size W W') : RI W' A n := by
  refine ⟨h.1, fun hp => ?_⟩
  obtain ⟨g, o, e, hg, hc⟩ := h.2 hp
  refine ⟨g, o, e, Nat.lt_of_lt_of_le hg hb.size, fun i hi => ?_⟩
  obtain ⟨x, hx⟩ := hc i hi
  exact ⟨x, (hb.cell (p := ⟨g, o + i, none⟩) hg).trans hx⟩
end Go.Proofs.Ytdfgaomlahpblaa.F
