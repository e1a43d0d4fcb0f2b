/- The plain law of extent, second part: what taking, claiming and giving do to the truths. -/
import Derived.Test.YtdfgaomlahpblaaEa
set_option linter.unusedVariables false
set_option linter.unusedSimpArgs false
namespace Go.Proofs.Ytdfgaomlahpblaa.F

theorem Rel.new (f n : Nat) : Rel f (List.replicate n false) (if 0 < n then [(f, n)] else []) := by
  have hf : ∀ x, freeTo f (List.replicate n false) (List.replicate n false).length x ↔ f ≤ x ∧ x < f + n := fun x => by
    unfold freeTo
    constructor
    · rintro ⟨j, h1, h2, _⟩
      simp at h1
      omega
    · rintro ⟨h1, h2⟩
      refine ⟨x - f, by simp; omega, by omega, ?_⟩
      have : x - f < n := by omega
      simp [List.getD_eq_getElem?_getD, List.getElem?_replicate, this]
  by_cases h : 0 < n
  · rw [if_pos h]
    refine ⟨⟨by simp, by simpa using h⟩, fun x => ?_⟩
    rw [hf, cov_cons]
    have := cov_nil x
    unfold Rn.has
    simp [this]
  · rw [if_neg h]
    refine ⟨Norm.nil, fun x => ?_⟩
    rw [hf]
    have := cov_nil x
    constructor
    · intro h; exact absurd h this
    · intro h; omega
theorem Rel.cut {f : Nat} {T : List Bool} {l : List Rn} (h : Rel f T l) (i a n : Nat) (hi : i < l.length) (h1 : (l.getD i (0, 0)).1 ≤ a) (h2 : a + n ≤ (l.getD i (0, 0)).1 + (l.getD i (0, 0)).2) (hn : 0 < n) :
    Rel f (setT T (a - f) n true) (cutL l i a n) := by
  obtain ⟨c1, c2⟩ := cut_ok i a n h.1 hi h1 h2 hn
  have hb := h.bd (l.getD i (0, 0)) (by rw [show l.getD i (0, 0) = l[i] by simp [List.getD_eq_getElem?_getD, hi]]; exact List.getElem_mem hi)
  refine ⟨c1, fun x => ?_⟩
  rw [c2, h.2, freeTo_set]
  constructor
  · rintro ⟨⟨j, g1, g2, g3⟩, hx⟩
    exact ⟨j, g1, g2, by rw [if_neg (by omega)]; exact g3⟩
  · rintro ⟨j, g1, g2, g3⟩
    split at g3
    · cases g3
    · exact ⟨⟨j, g1, g2, g3⟩, by omega⟩
theorem Rel.give {f : Nat} {T : List Bool} {l : List Rn} (h : Rel f T l) (a n : Nat) (hn : 0 < n) (hf : f ≤ a) (ht : a + n ≤ f + T.length) (hd : ∀ r ∈ l, ¬ (r.1 < a + n ∧ a < r.1 + r.2)) :
    Rel f (setT T (a - f) n false) (giveL l a n) := by
  obtain ⟨c1, c2⟩ := give_ok a n h.1 hn hd
  refine ⟨c1, fun x => ?_⟩
  rw [c2, h.2, freeTo_set]
  constructor
  · rintro (⟨j, g1, g2, g3⟩ | hx)
    · exact ⟨j, g1, g2, by split; rfl; exact g3⟩
    · exact ⟨x - f, by omega, by omega, by rw [if_pos (by omega)]⟩
  · rintro ⟨j, g1, g2, g3⟩
    split at g3
    · exact .inr (by omega)
    · exact .inl ⟨j, g1, g2, g3⟩
theorem Rel.held {f : Nat} {T : List Bool} {l : List Rn} (h : Rel f T l) (a n : Nat) (hn : 0 < n) (hf : f ≤ a) : (∃ r ∈ l, r.1 ≤ a ∧ a + n ≤ r.1 + r.2) ↔ ∀ j, a - f ≤ j → j < a - f + n → j < T.length ∧ T.getD j true = false := by
  constructor
  · rintro ⟨r, hr, h1, h2⟩ j h3 h4
    obtain ⟨i, g1, g2, g3⟩ := (h.2 (f + j)).1 ⟨r, hr, by unfold Rn.has; omega⟩
    obtain rfl : i = j := by omega
    exact ⟨g1, g3⟩
  · intro hh
    exact h.1.within hn (fun x h1 h2 => (h.2 x).2 ⟨x - f, (hh (x - f) (by omega) (by omega)).1, by omega, (hh (x - f) (by omega) (by omega)).2⟩)
theorem Rel.meets {f : Nat} {T : List Bool} {l : List Rn} (h : Rel f T l) (a n : Nat) (hn : 0 < n) (hf : f ≤ a) (ht : a + n ≤ f + T.length) : (∃ r ∈ l, r.1 < a + n ∧ a < r.1 + r.2) ↔ ¬ ∀ j, a - f ≤ j → j < a - f + n → T.getD j true = true := by
  constructor
  · rintro ⟨r, hr, h1, h2⟩ hh
    have hp := h.1.2 r hr
    obtain ⟨i, g1, g2, g3⟩ := (h.2 (max r.1 a)).1 ⟨r, hr, by unfold Rn.has; omega⟩
    rw [hh i (by omega) (by omega)] at g3
    cases g3
  · intro hh
    refine Classical.byContradiction fun hc => hh fun j h1 h2 => ?_
    cases hT : T.getD j true with
    | true => rfl
    | false =>
      obtain ⟨r, hr, hx⟩ := (h.2 (f + j)).2 ⟨j, by omega, rfl, hT⟩
      exact absurd ⟨r, hr, by have := hx.1; omega, by have := hx.2; omega⟩ hc
/-- How many sectors runs have, all together; and the longest. -/
def sumN (l : List Rn) : Nat := (l.map (·.2)).sum
def mostN (l : List Rn) : Nat := l.foldl (fun m r => max m r.2) 0
theorem sumN_append (l m : List Rn) : sumN (l ++ m) = sumN l + sumN m := by simp [sumN]
theorem sum_runsTo (f : Nat) (T : List Bool) : ∀ i, i ≤ T.length → sumN (runsTo f T i) = (T.take i).countP (! ·)
  | 0, _ => by simp [runsTo, sumN]
  | i + 1, h => by
    have ih := sum_runsTo f T i (by omega)
    obtain ⟨_, _, hl⟩ := runsTo_ok f T i
    have e : T.take (i + 1) = T.take i ++ [T.getD i true] := by
      rw [List.take_succ_eq_append_getElem (by omega)]
      simp [List.getD_eq_getElem?_getD, show i < T.length by omega]
    rw [e, List.countP_append]
    show sumN (rstep f T (runsTo f T i) i) = _
    unfold rstep
    cases ht : T.getD i true with
    | true => rw [if_pos rfl, ih]; simp
    | false =>
      rw [if_neg (by simp)]
      by_cases hp : 0 < i ∧ T.getD (i - 1) true = false
      · rw [if_pos hp]
        obtain ⟨l, r, e, _⟩ := hl hp.1 hp.2
        rw [e] at ih ⊢
        have hd : (l ++ [r]).dropLast = l := by simp
        have hg : (l ++ [r]).getLastD (0, 0) = r := by simp [List.getLastD_eq_getLast?]
        rw [hd, hg, ← ih]
        simp [sumN]
        omega
      · rw [if_neg hp, sumN_append, ih]
        simp [sumN]
theorem Rel.sum {f : Nat} {T : List Bool} {l : List Rn} (h : Rel f T l) : sumN l = T.countP (! ·) := by
  have := sum_runsTo f T T.length (Nat.le_refl _)
  rw [List.take_length] at this
  rw [h.eq]
  exact this
theorem mostN_le (l : List Rn) : ∀ m n : Nat, l.foldl (fun m (r : Rn) => max m r.2) m < n ↔ m < n ∧ ∀ r ∈ l, r.2 < n := by
  induction l with
  | nil => intro m n; simp
  | cons r l ih =>
    intro m n
    rw [List.foldl_cons, ih]
    simp only [List.mem_cons, forall_eq_or_imp]
    exact ⟨fun ⟨h1, h2⟩ => ⟨by omega, by omega, h2⟩, fun ⟨h1, h2, h3⟩ => ⟨by omega, h3⟩⟩
/-- Taken and given again: as it was. -/
theorem back {l : List Rn} (i a n : Nat) (hl : Norm l) (hi : i < l.length) (h1 : (l.getD i (0, 0)).1 ≤ a) (h2 : a + n ≤ (l.getD i (0, 0)).1 + (l.getD i (0, 0)).2) (hn : 0 < n) : giveL (cutL l i a n) a n = l := by
  obtain ⟨c1, c2⟩ := cut_ok i a n hl hi h1 h2 hn
  have hin : ∀ x, a ≤ x → x < a + n → cov l x := fun x g1 g2 => ⟨l.getD i (0, 0), by rw [show l.getD i (0, 0) = l[i] by simp [List.getD_eq_getElem?_getD, hi]]; exact List.getElem_mem hi, by unfold Rn.has; omega⟩
  obtain ⟨g1, g2⟩ := give_ok a n c1 hn (fun r hr hh => by
    have hp := c1.2 r hr
    have := (c2 (max r.1 a)).1 ⟨r, hr, by unfold Rn.has; omega⟩
    exact this.2 (by omega))
  refine g1.uniq hl (fun x => ?_)
  rw [g2, c2]
  constructor
  · rintro (h | h)
    · exact h.1
    · exact hin x h.1 h.2
  · intro h
    by_cases hx : a ≤ x ∧ x < a + n
    · exact .inr hx
    · exact .inl ⟨h, hx⟩
end Go.Proofs.Ytdfgaomlahpblaa.F
