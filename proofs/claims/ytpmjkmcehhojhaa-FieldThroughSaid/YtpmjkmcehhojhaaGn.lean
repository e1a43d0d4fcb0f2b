/- The same of natural numbers: sums of products of values and weights. -/
import Derived.Test.YtpmjkmcehhojhaaGl
namespace Go.Proofs.Ytpmjkmcehhojhaa.F

theorem geval_G (P : List G) (t : G) : geval (P.map G.val) t.val = (pev P t).val := by
  induction P with
  | nil => rfl
  | cons c P ih => show c.val ^^^ gm (geval (P.map G.val) t.val) t.val = _; rw [ih]; rfl
theorem pbut_ahead (f : Nat → Nat) (F : G → G) (hF : ∀ x : G, f x.val = (F x).val) (i : Nat) (m : List Nat) : ∀ (A : List G) (k : Nat) (o : G), k + A.length ≤ i →
    pbut f i (A.map G.val ++ m) k o.val = pbut f i m (k + A.length) (o * pr F A).val
  | [], k, o, _ => by show pbut f i m k o.val = pbut f i m k (o * G.one).val; rw [G.mul_one]
  | x :: A, k, o, h => by
    simp only [List.length_cons] at h ⊢
    show pbut f i (A.map G.val ++ m) (k + 1) (if k = i then o.val else gm o.val (f x.val)) = _
    rw [if_neg (by omega), hF x, ← G.mul_def, pbut_ahead f F hF i m A (k + 1) (o * F x) (by omega), show k + 1 + A.length = k + (A.length + 1) by omega]
    show _ = pbut f i m _ (o * (F x * pr F A)).val
    rw [G.mul_assoc]
theorem pbut_behind (f : Nat → Nat) (F : G → G) (hF : ∀ x : G, f x.val = (F x).val) (i : Nat) : ∀ (B : List G) (k : Nat) (o : G), i < k → pbut f i (B.map G.val) k o.val = (o * pr F B).val
  | [], _, o, _ => by show o.val = (o * G.one).val; rw [G.mul_one]
  | x :: B, k, o, h => by
    show pbut f i (B.map G.val) (k + 1) (if k = i then o.val else gm o.val (f x.val)) = _
    rw [if_neg (by omega), hF x, ← G.mul_def, pbut_behind f F hF i B (k + 1) (o * F x) (by omega)]
    show _ = (o * (F x * pr F B)).val
    rw [G.mul_assoc]
theorem refWeightAt_G (a x : G) (A B : List G) : refWeightAt ((A ++ x :: B).map G.val) a.val A.length = (wt a x (A ++ B)).val := by
  unfold refWeightAt
  have hx : ((A ++ x :: B).map G.val).getD A.length 0 = x.val := by simp [List.getD_eq_getElem?_getD]
  rw [hx]
  have hF : ∀ q : G, gm (a.val ^^^ q.val) (ginv (x.val ^^^ q.val)) = ((a + q) * (x + q).inv).val := fun _ => rfl
  have h1 := pbut_ahead (fun q => gm (a.val ^^^ q) (ginv (x.val ^^^ q))) (fun q => (a + q) * (x + q).inv) hF A.length ((x :: B).map G.val) A 0 G.one (by omega)
  rw [List.map_append]
  refine h1.trans ?_
  show pbut _ A.length (x.val :: B.map G.val) (0 + A.length) _ = _
  simp only [pbut, Nat.zero_add, if_true]
  rw [pbut_behind _ _ hF A.length B (A.length + 1) _ (by omega), G.one_mul]
  unfold wt
  rw [pr_append]
theorem gdot_sx (P : List G) (a : G) : ∀ (R A : List G) (l : List Nat), l = (A ++ R).map G.val →
    gdot ((R.map G.val).map (geval (P.map G.val))) ((List.range' A.length R.length).map (refWeightAt l a.val)) = (sx (pev P) a A R).val
  | [], _, _, _ => rfl
  | x :: R, A, l, hl => by
    have ih := gdot_sx P a R (A ++ [x]) l (by rw [hl]; simp)
    simp only [List.length_append, List.length_cons, List.length_nil, Nat.zero_add] at ih
    simp only [List.map_cons, List.length_cons, List.range'_succ]
    show gm (geval (P.map G.val) x.val) (refWeightAt l a.val A.length) ^^^ gdot _ _ = _
    rw [ih, geval_G, hl, refWeightAt_G]
    rfl
theorem exists_G (l : List Nat) (hl : ∀ x ∈ l, x < 256) : ∃ L : List G, L.map G.val = l := by
  induction l with
  | nil => exact ⟨[], rfl⟩
  | cons x l ih =>
    obtain ⟨L, hL⟩ := ih fun y hy => hl y (by simp [hy])
    exact ⟨⟨x, hl x (by simp)⟩ :: L, by simp [hL]⟩
theorem nodup_G {L : List G} (h : (L.map G.val).Nodup) : L.Nodup := by
  induction L with
  | nil => simp
  | cons x L ih =>
    simp only [List.map_cons, List.nodup_cons] at h ⊢
    exact ⟨fun hx => h.1 (List.mem_map_of_mem hx), ih h.2⟩
/-- The values at some points, by their weights, are the value elsewhere. -/
theorem through (l p : List Nat) (a : Nat) (hl : ∀ x ∈ l, x < 256) (hp : ∀ x ∈ p, x < 256) (ha : a < 256) (hnd : l.Nodup) (hle : p.length ≤ l.length) : gdot (l.map (geval p)) (weights l a) = geval p a := by
  obtain ⟨L, rfl⟩ := exists_G l hl
  obtain ⟨P, rfl⟩ := exists_G p hp
  have h := gdot_sx P ⟨a, ha⟩ L [] (L.map G.val) rfl
  rw [lagrange ⟨a, ha⟩ L.length L P rfl (by simpa using hle) (nodup_G hnd)] at h
  rw [← weights_eq _ a hl ha, List.range_eq_range', show ((L.map G.val).length) = L.length by simp]
  exact h.trans (geval_G P ⟨a, ha⟩).symm
end Go.Proofs.Ytpmjkmcehhojhaa.F
