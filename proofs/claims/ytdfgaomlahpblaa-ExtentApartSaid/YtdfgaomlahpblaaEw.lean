/- Program and document answer alike (plain). -/
import Derived.Test.YtdfgaomlahpblaaEv
set_option linter.unusedVariables false
set_option linter.unusedSimpArgs false
namespace Go.Proofs.Ytdfgaomlahpblaa.F

theorem take_same {f : Nat} {T : List Bool} {l : List Rn} (h : Rel f T l) (n : Int) : (takeF l n).1 = (takeR f T n).1 ∧ (takeF l n).2.1 = (takeR f T n).2.1 ∧ (takeR f T n).2.2.length = T.length ∧ Rel f (takeR f T n).2.2 (takeF l n).2.2 := by
  have he := h.eq
  unfold takeF takeR
  rw [← he]
  by_cases h1 : n < 1
  · rw [if_pos h1, if_pos h1]
    exact ⟨rfl, rfl, rfl, h⟩
  · rw [if_neg h1, if_neg h1]
    cases hf : l.findIdx? (fun r => decide (n ≤ (r.2 : Int))) with
    | none => exact ⟨rfl, rfl, rfl, h⟩
    | some i =>
      obtain ⟨hi, hp, _⟩ := List.findIdx?_eq_some_iff_getElem.1 hf
      have hp := of_decide_eq_true hp
      have hgd : l.getD i (0, 0) = l[i] := by simp [List.getD_eq_getElem?_getD, hi]
      refine ⟨rfl, rfl, setT_len _ _ _ _, h.cut i (l.getD i (0, 0)).1 n.toNat hi (Nat.le_refl _) ?_ (by omega)⟩
      rw [hgd]
      omega
theorem claim_same {f : Nat} {T : List Bool} {l : List Rn} (h : Rel f T l) (a n : Int) : (claimF f (f + T.length) l a n).1 = (claimR f T a n).1 ∧ (claimR f T a n).2.length = T.length ∧ Rel f (claimR f T a n).2 (claimF f (f + T.length) l a n).2 := by
  unfold claimF claimR
  cases hw : withinB f (f + T.length) a n with
  | false => exact ⟨rfl, rfl, h⟩
  | true =>
    rw [if_neg (by simp), if_neg (by simp)]
    obtain ⟨x, m, rfl, rfl, hm, hxm⟩ := within_yes' hw
    have hx : (((f + x : Nat) : Int) - f).toNat = x := by omega
    have hx2 : ((f + x : Nat) : Int).toNat = f + x := by omega
    rw [hx, hx2, Int.toNat_natCast]
    have hheld := h.held (f + x) m hm (by omega)
    rw [show f + x - f = x by omega] at hheld
    cases hf : l.findIdx? (fun r => decide ((r.1 : Int) ≤ ((f + x : Nat) : Int)) && decide (((f + x : Nat) : Int) + (m : Int) ≤ (r.1 : Int) + r.2)) with
    | none =>
      have hno : allB T x m false = false := allB_false.2 (fun hall => by
        obtain ⟨r, hr, h1, h2⟩ := hheld.2 (fun j g1 g2 => ⟨by omega, hall j g1 g2⟩)
        have := List.findIdx?_eq_none_iff.1 hf r hr
        simp only [Bool.and_eq_false_iff, decide_eq_false_iff_not] at this
        omega)
      rw [if_pos hno]
      exact ⟨rfl, rfl, h⟩
    | some i =>
      obtain ⟨hi, hp, _⟩ := List.findIdx?_eq_some_iff_getElem.1 hf
      simp only [Bool.and_eq_true, decide_eq_true_eq] at hp
      have hgd : l.getD i (0, 0) = l[i] := by simp [List.getD_eq_getElem?_getD, hi]
      have hyes : allB T x m false = true := allB_true.2 (fun j g1 g2 => (hheld.1 ⟨l[i], List.getElem_mem hi, by omega, by omega⟩ j g1 g2).2)
      rw [if_neg (by rw [hyes]; simp)]
      have hc := h.cut i (f + x) m hi (by rw [hgd]; omega) (by rw [hgd]; omega) hm
      rw [show f + x - f = x by omega] at hc
      exact ⟨rfl, setT_len _ _ _ _, hc⟩
theorem give_same {f : Nat} {T : List Bool} {l : List Rn} (h : Rel f T l) (a n : Int) : (giveF f (f + T.length) l a n).1 = (giveR f T a n).1 ∧ (giveR f T a n).2.length = T.length ∧ Rel f (giveR f T a n).2 (giveF f (f + T.length) l a n).2 := by
  unfold giveF giveR
  cases hw : withinB f (f + T.length) a n with
  | false => exact ⟨rfl, rfl, h⟩
  | true =>
    simp only [reduceCtorEq, if_false]
    obtain ⟨x, m, rfl, rfl, hm, hxm⟩ := within_yes' hw
    have hx : (((f + x : Nat) : Int) - f).toNat = x := by omega
    have hx2 : ((f + x : Nat) : Int).toNat = f + x := by omega
    rw [hx, hx2, Int.toNat_natCast]
    have hmeets := h.meets (f + x) m hm (by omega) hxm
    rw [show f + x - f = x by omega] at hmeets
    rcases idxR_cases (fun r => decide ((r.1 : Int) < ((f + x : Nat) : Int) + (m : Int)) && decide (((f + x : Nat) : Int) < (r.1 : Int) + r.2)) l with ⟨hq, hall⟩ | ⟨i, hi, hq, hp, _⟩
    · rw [hq, if_neg (by omega)]
      have hdis : ∀ r ∈ l, ¬ (r.1 < f + x + m ∧ f + x < r.1 + r.2) := fun r hr hh => by
        have := hall r hr
        simp only [Bool.and_eq_false_iff, decide_eq_false_iff_not] at this
        omega
      have hyes : allB T x m true = true := allB_true.2 (Classical.byContradiction fun hc => by
        obtain ⟨r, hr, hh⟩ := hmeets.2 hc
        exact hdis r hr hh)
      rw [if_neg (by rw [hyes]; simp)]
      have hg := h.give (f + x) m hm (by omega) hxm hdis
      rw [show f + x - f = x by omega] at hg
      exact ⟨rfl, setT_len _ _ _ _, hg⟩
    · rw [hq, if_pos (by omega)]
      simp only [Bool.and_eq_true, decide_eq_true_eq] at hp
      have hno : allB T x m true = false := allB_false.2 (hmeets.1 ⟨l[i], List.getElem_mem hi, by omega, by omega⟩)
      rw [if_pos hno]
      exact ⟨rfl, rfl, h⟩
end Go.Proofs.Ytdfgaomlahpblaa.F
