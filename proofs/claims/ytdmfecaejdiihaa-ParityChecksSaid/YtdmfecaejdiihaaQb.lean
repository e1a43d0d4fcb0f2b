/- At a point of its own the weights are a unit row: the program's group is the document's. -/
import Derived.Test.YtdmfecaejdiihaaQa
set_option linter.unusedVariables false
set_option linter.unusedSimpArgs false
namespace Go.Proofs.Ytdmfecaejdiihaa.F
open Go.RowKit Go.Proofs.YtdmfecaejdiihaaW.PrintWords

theorem pbut_zero (f : Nat → Nat) (but : Nat) : ∀ (l : List Nat) (i : Nat), pbut f but l i 0 = 0
  | [], _ => rfl
  | q :: l, i => by
    unfold pbut
    split
    · exact pbut_zero f but l (i + 1)
    · rw [gm_zero_left]; exact pbut_zero f but l (i + 1)
theorem pbut_has (f : Nat → Nat) (but : Nat) : ∀ (l : List Nat) (i o k : Nat) (hk : k < l.length), i + k ≠ but → f l[k] = 0 → pbut f but l i o = 0
  | [], _, _, _, hk, _, _ => by simp at hk
  | q :: l, i, o, 0, _, hne, hf => by
    have hf : f q = 0 := hf
    unfold pbut
    rw [if_neg (by omega), hf, gm_zero_right]
    exact pbut_zero f but l (i + 1)
  | q :: l, i, o, k + 1, hk, hne, hf => by
    unfold pbut
    split
    · exact pbut_has f but l (i + 1) _ k (by simp at hk; omega) (by omega) hf
    · exact pbut_has f but l (i + 1) _ k (by simp at hk; omega) (by omega) hf
theorem pbut_ne (f : Nat → Nat) (but : Nat) : ∀ (l : List Nat) (i o : Nat), o < 256 → o ≠ 0 → (∀ k (hk : k < l.length), i + k ≠ but → f l[k] < 256 ∧ f l[k] ≠ 0) → pbut f but l i o ≠ 0
  | [], _, _, _, h0, _ => h0
  | q :: l, i, o, ho, h0, hf => by
    have hr : ∀ k (hk : k < l.length), (i + 1) + k ≠ but → f l[k] < 256 ∧ f l[k] ≠ 0 := fun k hk hne => hf (k + 1) (by simp; omega) (by omega)
    unfold pbut
    split
    · exact pbut_ne f but l (i + 1) o ho h0 hr
    · rename_i hib
      obtain ⟨h1, h2⟩ := hf 0 (by simp) (by omega)
      have h1 : f q < 256 := h1
      have h2 : f q ≠ 0 := h2
      exact pbut_ne f but l (i + 1) _ (gm_lt ho _) (fun e => h2 (gm_eq_zero ho h1 e h0)) hr
theorem xor_ne {a b : Nat} (h : a ≠ b) : a ^^^ b ≠ 0 := fun e => h (by
  have := congrArg (· ^^^ b) e
  simpa [Nat.xor_assoc] using this)
theorem weights_unit (l : List Nat) (hl : ∀ x ∈ l, x < 256) (hnd : l.Nodup) (j : Nat) (hj : j < l.length) : ∀ i (hi : i < (weights l l[j]).length), (weights l l[j])[i] = if i = j then 1 else 0 := fun i hi => by
  have hi2 : i < l.length := by rwa [weights_len] at hi
  have e : (weights l l[j])[i] = weightAt l l[j] i := by simp [weights]
  rw [e]
  by_cases hij : i = j
  · subst hij
    rw [if_pos rfl]
    unfold weightAt
    rw [show l.getD i 0 = l[i] by simp [List.getD_eq_getElem?_getD, hi2]]
    refine gm_ginv (pbut_lt _ _ _ _ (by omega)) (pbut_ne _ _ _ _ _ (by omega) (by omega) (fun k hk hne => ?_))
    refine ⟨Nat.xor_lt_two_pow (n := 8) (hl _ (List.getElem_mem _)) (hl _ (List.getElem_mem _)), xor_ne (fun e => hne ?_)⟩
    have hpw := List.pairwise_iff_getElem.1 hnd
    rcases Nat.lt_trichotomy i k with h | h | h
    · exact absurd e (hpw i k hi2 hk h)
    · omega
    · exact absurd e.symm (hpw k i hk hi2 h)
  · rw [if_neg hij]
    unfold weightAt
    rw [pbut_has _ _ _ _ _ j hj (by omega) (Nat.xor_self _), gm_zero_left]
theorem gdot_zeros : ∀ (c w : List Nat), (∀ i (h : i < w.length), w[i] = 0) → gdot c w = 0
  | [], w, _ => by simp [gdot]
  | x :: c, [], _ => rfl
  | x :: c, y :: w, h => by
    have h0 : y = 0 := h 0 (by simp)
    have ih := gdot_zeros c w (fun i hi => h (i + 1) (by simp; omega))
    show gm x y ^^^ gdot c w = 0
    rw [h0, gm_zero_right, ih]
    rfl
theorem gdot_unit : ∀ (c w : List Nat) (j : Nat), c.length = w.length → j < c.length → (∀ i (h : i < w.length), w[i] = if i = j then 1 else 0) → (∀ x ∈ c, x < 256) → gdot c w = c.getD j 0
  | [], _, _, _, h, _, _ => by simp at h
  | x :: c, [], _, h, _, _, _ => by simp at h
  | x :: c, y :: w, 0, hl, hj, h, hc => by
    have h0 : y = 1 := h 0 (by simp)
    have ih := gdot_zeros c w (fun i hi => by have := h (i + 1) (by simp; omega); simpa using this)
    show gm x y ^^^ gdot c w = x
    rw [h0, gm_one (hc x (by simp)), ih, Nat.xor_zero]
  | x :: c, y :: w, j + 1, hl, hj, h, hc => by
    have h0 : y = 0 := by have := h 0 (by simp); simpa using this
    have ih := gdot_unit c w j (by simpa using hl) (by simpa using hj) (fun i hi => by have := h (i + 1) (by simp; omega); simpa using this) (fun z hz => hc z (by simp [hz]))
    show gm x y ^^^ gdot c w = _
    rw [h0, gm_zero_right, Nat.zero_xor, ih]
    simp [List.getD_eq_getElem?_getD]
theorem atV_own (css : List (List Nat)) (pts : List Nat) (L j : Nat) (hl : ∀ x ∈ pts, x < 256) (hnd : pts.Nodup) (hlen : css.length = pts.length) (hL : ∀ cs ∈ css, cs.length = L) (hb : ∀ cs ∈ css, ∀ y ∈ cs, y < 256) (hj : j < pts.length) :
    atV css pts pts[j] L = css.getD j [] := by
  have hjc : j < css.length := by omega
  have hg : css.getD j [] = css[j] := by simp [List.getD_eq_getElem?_getD, hjc]
  have hLj := hL _ (List.getElem_mem hjc)
  rw [hg]
  apply List.ext_getElem
  · simp [atV, hLj]
  · intro i h1 h2
    have e : (atV css pts pts[j] L)[i] = gdot (colAt css i) (weights pts pts[j]) := by simp [atV]
    rw [e, gdot_unit _ _ j (by rw [weights_len]; simp [colAt, hlen]) (by simpa [colAt] using hjc) (weights_unit pts hl hnd j hj) (col_lt hb i)]
    simp [colAt, List.getD_eq_getElem?_getD, hjc, h2]
theorem grp_same (css : List (List Nat)) (pts : List Nat) (L n : Nat) (hl : ∀ x ∈ pts, x < 256) (hnd : pts.Nodup) (hlen : css.length = pts.length) (hL : ∀ cs ∈ css, cs.length = L) (hb : ∀ cs ∈ css, ∀ y ∈ cs, y < 256) :
    grpP css pts L n = grpR css pts L n := by
  unfold grpP grpR
  apply List.map_congr_left
  intro i _
  unfold grpAt
  by_cases hi : i ∈ pts
  · rw [if_pos hi]
    have hj := List.idxOf_lt_length_of_mem hi
    have h := atV_own css pts L (pts.idxOf i) hl hnd hlen hL hb hj
    rw [List.getElem_idxOf hj] at h
    exact h.symm
  · rw [if_neg hi]
end Go.Proofs.Ytdmfecaejdiihaa.F
