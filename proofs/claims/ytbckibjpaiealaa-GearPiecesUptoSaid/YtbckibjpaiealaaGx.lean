/- Plain laws: fed bytes are split as the document says. -/
import Derived.Test.YtbckibjpaiealaaGq
set_option linter.unusedVariables false
set_option linter.unusedSimpArgs false
namespace Go.Proofs.Ytbckibjpaiealaa.F

theorem first_zero {mn av mx : Nat} {tb r : List Nat} (h1 : 1 ≤ mn) : first mn av mx tb r = 0 ↔ ∀ k, mn ≤ k → k ≤ r.length → endsB av mx tb r k = false := by
  unfold first
  cases hf : (List.range' mn (r.length + 1 - mn)).find? (endsB av mx tb r) with
  | none =>
    rw [List.find?_range'_eq_none] at hf
    simp only [Option.getD_none, true_iff]
    intro k hk hl
    have := hf k hk (by omega)
    simpa using this
  | some k =>
    rw [List.find?_range'_eq_some] at hf
    obtain ⟨h2, h3, _⟩ := hf
    rw [List.mem_range'_1] at h3
    simp only [Option.getD_some]
    constructor
    · intro h; omega
    · intro h
      have := h k h3.1 (by omega)
      rw [this] at h2; cases h2
theorem first_is {mn av mx : Nat} {tb r : List Nat} (k : Nat) (hk : mn ≤ k) (hl : k ≤ r.length) (he : endsB av mx tb r k = true) (hn : ∀ j, mn ≤ j → j < k → endsB av mx tb r j = false) : first mn av mx tb r = k := by
  unfold first
  have : (List.range' mn (r.length + 1 - mn)).find? (endsB av mx tb r) = some k := by
    rw [List.find?_range'_eq_some]
    refine ⟨he, ?_, fun j h1 h2 => by rw [hn j h1 h2]; rfl⟩
    rw [List.mem_range'_1]; omega
  rw [this]; rfl
theorem endsB_append {av mx : Nat} {tb xs p : List Nat} {k : Nat} (h : k ≤ xs.length) : endsB av mx tb (xs ++ p) k = endsB av mx tb xs k := by
  unfold endsB
  rw [List.take_append_of_le_length h]
theorem lt_div (g av : Nat) (h : 1 ≤ av) (hd : av ∣ 4294967296) : (g < 4294967296 / av) ↔ g * av < 4294967296 := by
  obtain ⟨q, hq⟩ := hd
  rw [hq, Nat.mul_div_cancel_left _ (by omega), Nat.mul_comm g av]
  exact (Nat.mul_lt_mul_left (by omega)).symm
theorem endsAt_eq {mn av mx : Nat} {tb xs : List Nat} (h : 1 ≤ av) (hd : av ∣ 4294967296) : endsAt mn av mx tb xs = (decide (mn ≤ xs.length) && endsB av mx tb xs xs.length) := by
  unfold endsAt endsB
  rw [List.take_length, decide_eq_decide.2 (lt_div _ _ h hd)]
theorem split_zero {mn av mx : Nat} {tb xs : List Nat} (N : Nat) (h : first mn av mx tb xs = 0) : split mn av mx tb N xs = ([], xs) := by
  cases N with
  | zero => rfl
  | succ N => simp [split, h]
/-- Fed bytes are split as the document says. -/
theorem fold_split (mn av mx : Nat) (tb : List Nat) (h1 : 1 ≤ mn) (hav : 1 ≤ av) (hd : av ∣ 4294967296) (p : List Nat) : ∀ (css : List (List Nat)) (xs : List Nat) (N : Nat), first mn av mx tb xs = 0 → (xs ++ p).length < N →
    p.foldl (gstep mn av mx tb) (css, xs) = (css ++ (split mn av mx tb N (xs ++ p)).1, (split mn av mx tb N (xs ++ p)).2) := by
  induction p with
  | nil => intro css xs N h _; rw [List.append_nil, split_zero N h]; simp
  | cons b p ih =>
    intro css xs N h hN
    have e1 : xs ++ b :: p = (xs ++ [b]) ++ p := by simp
    rw [List.foldl_cons, e1]
    rw [e1] at hN
    have hz := (first_zero h1).1 h
    rw [show gstep mn av mx tb (css, xs) b = if endsAt mn av mx tb (xs ++ [b]) = true then (css ++ [xs ++ [b]], []) else (css, xs ++ [b]) from rfl, endsAt_eq hav hd]
    by_cases he : (decide (mn ≤ (xs ++ [b]).length) && endsB av mx tb (xs ++ [b]) (xs ++ [b]).length) = true
    · rw [if_pos he]
      simp only [Bool.and_eq_true, decide_eq_true_eq] at he
      have hf : first mn av mx tb (xs ++ [b] ++ p) = (xs ++ [b]).length := by
        refine first_is _ he.1 (by simp) (by rw [endsB_append (Nat.le_refl _)]; exact he.2) (fun j hj hj2 => ?_)
        have hj3 : j ≤ xs.length := by simp at hj2; omega
        rw [List.append_assoc, endsB_append hj3]
        exact hz j hj hj3
      obtain ⟨N', rfl⟩ : ∃ N', N = N' + 1 := ⟨N - 1, by omega⟩
      have h0 : first mn av mx tb [] = 0 := (first_zero h1).2 (fun k hk hk2 => by simp at hk2; omega)
      have hih := ih (css ++ [xs ++ [b]]) [] N' h0 (by simp at hN ⊢; omega)
      rw [hih]
      simp only [split, hf]
      rw [if_neg (by simp), List.take_left', List.drop_left']
      · simp
      · rfl
      · rfl
    · rw [if_neg he]
      simp only [Bool.and_eq_true, decide_eq_true_eq, not_and, Bool.not_eq_true] at he
      refine ih css (xs ++ [b]) N ((first_zero h1).2 (fun k hk hk2 => ?_)) hN
      by_cases hk3 : k = (xs ++ [b]).length
      · subst hk3; exact he hk
      · have hk4 : k ≤ xs.length := by simp at hk2 hk3; omega
        rw [endsB_append hk4]; exact hz k hk hk4
theorem isPow_dvd {n : Nat} (h : isPow (n : Int) = true) : 1 ≤ n ∧ n ≤ 256 ∧ n ∣ 4294967296 := by
  have h1 := isPow_range h
  refine ⟨by omega, by omega, ?_⟩
  unfold isPow at h
  rw [List.any_eq_true] at h
  obtain ⟨k, hk, he⟩ := h
  have hk' := List.mem_range.1 hk
  have : n = 2 ^ k := by
    have := eq_of_beq he
    exact_mod_cast this
  rw [this, show 4294967296 = 2 ^ 32 from rfl]
  exact Nat.pow_dvd_pow 2 (by omega)
/-- The chunks of a text. -/
def chunks (mn av mx : Nat) (tb p : List Nat) : List (List Nat) :=
  (p.foldl (gstep mn av mx tb) ([], [])).1 ++ if 0 < (p.foldl (gstep mn av mx tb) ([], [])).2.length then [(p.foldl (gstep mn av mx tb) ([], [])).2] else []
theorem fold_nil (mn av mx : Nat) (tb p : List Nat) (h1 : 1 ≤ mn) (hav : 1 ≤ av) (hd : av ∣ 4294967296) (N : Nat) (hN : p.length < N) : p.foldl (gstep mn av mx tb) ([], []) = split mn av mx tb N p := by
  have h0 : first mn av mx tb [] = 0 := (first_zero h1).2 (fun k hk hk2 => by simp at hk2; omega)
  have := fold_split mn av mx tb h1 hav hd p [] [] N h0 (by simpa using hN)
  simpa using this
end Go.Proofs.Ytbckibjpaiealaa.F
