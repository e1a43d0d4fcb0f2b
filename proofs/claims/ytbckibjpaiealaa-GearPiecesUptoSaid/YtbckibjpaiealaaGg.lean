/- Whole chunks ahead of a text. -/
import Derived.Test.YtbckibjpaiealaaGx
set_option linter.unusedVariables false
set_option linter.unusedSimpArgs false
namespace Go.Proofs.Ytbckibjpaiealaa.F

def NoEnd (mn av mx : Nat) (tb xs : List Nat) : Prop := ∀ q b r, xs = q ++ b :: r → endsAt mn av mx tb (q ++ [b]) = false
def Good (mn av mx : Nat) (tb c : List Nat) : Prop := ∃ xs b, c = xs ++ [b] ∧ endsAt mn av mx tb c = true ∧ NoEnd mn av mx tb xs
theorem noEnd_snoc {mn av mx : Nat} {tb xs : List Nat} {b : Nat} (h : NoEnd mn av mx tb xs) (he : endsAt mn av mx tb (xs ++ [b]) = false) : NoEnd mn av mx tb (xs ++ [b]) := by
  intro q b' r e
  rcases List.eq_nil_or_concat r with rfl | ⟨r1, b1, rfl⟩
  · rw [← e]; exact he
  · rw [List.concat_eq_append, show q ++ b' :: (r1 ++ [b1]) = (q ++ b' :: r1) ++ [b1] by simp] at e
    exact h q b' r1 (List.append_inj_left' e rfl)
theorem gstep_good {mn av mx : Nat} {tb : List Nat} (s : List (List Nat) × List Nat) (b : Nat) (hs : (∀ c ∈ s.1, Good mn av mx tb c) ∧ NoEnd mn av mx tb s.2) :
    (∀ c ∈ (gstep mn av mx tb s b).1, Good mn av mx tb c) ∧ NoEnd mn av mx tb (gstep mn av mx tb s b).2 := by
  unfold gstep
  by_cases he : endsAt mn av mx tb (s.2 ++ [b]) = true
  · rw [if_pos he]
    refine ⟨fun c hc => ?_, fun q b' r e => by simp at e⟩
    rcases List.mem_append.1 hc with hc | hc
    · exact hs.1 c hc
    · rw [List.mem_singleton.1 hc]
      exact ⟨s.2, b, rfl, he, hs.2⟩
  · rw [if_neg he]
    exact ⟨hs.1, noEnd_snoc hs.2 (by simpa using he)⟩
theorem gfold_good {mn av mx : Nat} {tb : List Nat} (p : List Nat) : ∀ (s : List (List Nat) × List Nat), ((∀ c ∈ s.1, Good mn av mx tb c) ∧ NoEnd mn av mx tb s.2) →
    (∀ c ∈ (p.foldl (gstep mn av mx tb) s).1, Good mn av mx tb c) ∧ NoEnd mn av mx tb (p.foldl (gstep mn av mx tb) s).2 := by
  induction p with
  | nil => intro s hs; exact hs
  | cons b p ih => intro s hs; exact ih _ (gstep_good s b hs)
theorem fold_held {mn av mx : Nat} {tb : List Nat} (pre : List (List Nat)) (xs : List Nat) : ∀ (q : List Nat), NoEnd mn av mx tb (q ++ xs) → xs.foldl (gstep mn av mx tb) (pre, q) = (pre, q ++ xs) := by
  induction xs with
  | nil => intro q _; simp
  | cons b xs ih =>
    intro q h
    have he := h q b xs rfl
    rw [List.foldl_cons]
    have : gstep mn av mx tb (pre, q) b = (pre, q ++ [b]) := by unfold gstep; rw [if_neg (by rw [he]; simp)]
    rw [this, ih (q ++ [b]) (by simpa using h)]
    simp
theorem fold_one {mn av mx : Nat} {tb c : List Nat} (pre : List (List Nat)) (h : Good mn av mx tb c) : c.foldl (gstep mn av mx tb) (pre, []) = (pre ++ [c], []) := by
  obtain ⟨xs, b, rfl, he, hn⟩ := h
  rw [List.foldl_append, fold_held pre xs [] (by simpa using hn)]
  simp only [List.nil_append, List.foldl_cons, List.foldl_nil]
  unfold gstep
  rw [if_pos he]
theorem fold_flat {mn av mx : Nat} {tb : List Nat} (css : List (List Nat)) : ∀ (pre : List (List Nat)), (∀ c ∈ css, Good mn av mx tb c) → css.flatten.foldl (gstep mn av mx tb) (pre, []) = (pre ++ css, []) := by
  induction css with
  | nil => intro pre _; simp
  | cons c css ih =>
    intro pre h
    rw [List.flatten_cons, List.foldl_append, fold_one pre (h c (by simp)), ih (pre ++ [c]) (fun c' hc => h c' (by simp [hc]))]
    simp
theorem fold_pre {mn av mx : Nat} {tb : List Nat} (t : List Nat) : ∀ (pre css : List (List Nat)) (xs : List Nat), t.foldl (gstep mn av mx tb) (pre ++ css, xs) = (pre ++ (t.foldl (gstep mn av mx tb) (css, xs)).1, (t.foldl (gstep mn av mx tb) (css, xs)).2) := by
  induction t with
  | nil => intro pre css xs; rfl
  | cons b t ih =>
    intro pre css xs
    rw [List.foldl_cons, List.foldl_cons]
    have e : gstep mn av mx tb (pre ++ css, xs) b = (pre ++ (gstep mn av mx tb (css, xs) b).1, (gstep mn av mx tb (css, xs) b).2) := by
      unfold gstep
      by_cases he : endsAt mn av mx tb (xs ++ [b]) = true
      · rw [if_pos he, if_pos he]; simp
      · rw [if_neg he, if_neg he]
    rw [e, ih]
/-- Whole chunks ahead of a text stay. -/
theorem chunks_ahead {mn av mx : Nat} {tb : List Nat} (a t : List Nat) : chunks mn av mx tb ((a.foldl (gstep mn av mx tb) ([], [])).1.flatten ++ t) = (a.foldl (gstep mn av mx tb) ([], [])).1 ++ chunks mn av mx tb t := by
  have hg := (gfold_good (mn := mn) (av := av) (mx := mx) (tb := tb) a ([], []) ⟨by simp, fun q b r e => by simp at e⟩).1
  unfold chunks
  rw [List.foldl_append, fold_flat _ [] hg]
  have := fold_pre (mn := mn) (av := av) (mx := mx) (tb := tb) t (a.foldl (gstep mn av mx tb) ([], [])).1 [] []
  rw [List.append_nil] at this
  rw [List.nil_append, this]
  simp
end Go.Proofs.Ytbckibjpaiealaa.F
