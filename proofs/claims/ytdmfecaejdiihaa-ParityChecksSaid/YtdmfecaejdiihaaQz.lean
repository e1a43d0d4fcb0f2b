/- Plain mathematics: the values of a polynomial at as many points as it has coefficients, by the points' weights, are its value elsewhere. -/
import Derived.Test.YtdmfecaejdiihaaQb
set_option linter.unusedVariables false
set_option linter.unusedSimpArgs false
namespace Go.Proofs.Ytdmfecaejdiihaa.F

/-- An element of the field. -/
structure G where
  val : Nat
  lt : val < 256
theorem G.ext {a b : G} (h : a.val = b.val) : a = b := by cases a; cases b; simp at h; subst h; rfl
def G.add (a b : G) : G := ⟨a.val ^^^ b.val, xor_lt a.lt b.lt⟩
def G.mul (a b : G) : G := ⟨gm a.val b.val, gm_lt a.lt _⟩
def G.inv (a : G) : G := ⟨ginv a.val, ginv_lt a.lt⟩
def G.zero : G := ⟨0, by omega⟩
def G.one : G := ⟨1, by omega⟩
instance : Add G := ⟨G.add⟩
instance : Mul G := ⟨G.mul⟩
theorem G.add_def (a b : G) : (a + b).val = a.val ^^^ b.val := rfl
theorem G.mul_def (a b : G) : (a * b).val = gm a.val b.val := rfl
theorem G.add_comm (a b : G) : a + b = b + a := G.ext (Nat.xor_comm _ _)
theorem G.add_assoc (a b c : G) : a + b + c = a + (b + c) := G.ext (Nat.xor_assoc _ _ _)
theorem G.mul_comm (a b : G) : a * b = b * a := G.ext (gm_comm a.lt b.lt)
theorem G.mul_assoc (a b c : G) : a * b * c = a * (b * c) := G.ext (gm_assoc a.lt b.lt c.lt).symm
theorem G.mul_add (a b c : G) : a * (b + c) = a * b + a * c := G.ext (gm_xor_right _ _ _)
theorem G.add_mul (a b c : G) : (a + b) * c = a * c + b * c := G.ext (gm_xor_left _ a.lt b.lt)
theorem G.add_self (a : G) : a + a = G.zero := G.ext (Nat.xor_self _)
theorem G.add_zero (a : G) : a + G.zero = a := G.ext (Nat.xor_zero _)
theorem G.zero_add (a : G) : G.zero + a = a := G.ext (Nat.zero_xor _)
theorem G.zero_mul (a : G) : G.zero * a = G.zero := G.ext (gm_zero_left _)
theorem G.mul_zero (a : G) : a * G.zero = G.zero := G.ext (gm_zero_right _)
theorem G.one_mul (a : G) : G.one * a = a := G.ext (gm_one_left a.lt)
theorem G.mul_one (a : G) : a * G.one = a := G.ext (gm_one a.lt)
theorem G.mul_inv {a : G} (h : a ≠ G.zero) : a * a.inv = G.one := G.ext (gm_ginv a.lt fun e => h (G.ext e))
theorem G.add_ne {a b : G} (h : a ≠ b) : a + b ≠ G.zero := fun e => h (by
  have : a + b + b = G.zero + b := by rw [e]
  rwa [G.add_assoc, G.add_self, G.add_zero, G.zero_add] at this)
instance : Std.Associative (α := G) (· * ·) := ⟨G.mul_assoc⟩
instance : Std.Commutative (α := G) (· * ·) := ⟨G.mul_comm⟩
instance : Std.Associative (α := G) (· + ·) := ⟨G.add_assoc⟩
instance : Std.Commutative (α := G) (· + ·) := ⟨G.add_comm⟩

def pev : List G → G → G
  | [], _ => G.zero
  | c :: p, x => c + pev p x * x
/-- A product over a list. -/
def pr (f : G → G) : List G → G
  | [] => G.one
  | x :: l => f x * pr f l
theorem pr_append (f : G → G) (l m : List G) : pr f (l ++ m) = pr f l * pr f m := by
  induction l with
  | nil => exact (G.one_mul _).symm
  | cons x l ih => show f x * pr f (l ++ m) = f x * pr f l * pr f m; rw [ih]; ac_rfl
def wt (a x : G) (o : List G) : G := pr (fun q => (a + q) * (x + q).inv) o
/-- The sum over the rest, the ahead ones put by. -/
def sx (f : G → G) (a : G) : List G → List G → G
  | _, [] => G.zero
  | pre, x :: r => f x * wt a x (pre ++ r) + sx f a (pre ++ [x]) r
theorem sx_add (f g : G → G) (a : G) : ∀ (r pre : List G), sx (fun t => f t + g t) a pre r = sx f a pre r + sx g a pre r
  | [], _ => (G.add_zero _).symm
  | x :: r, pre => by
    show (f x + g x) * _ + sx _ a _ r = (f x * _ + sx f a _ r) + (g x * _ + sx g a _ r)
    rw [sx_add f g a r, G.add_mul]; ac_rfl
theorem sx_mul (c : G) (f : G → G) (a : G) : ∀ (r pre : List G), sx (fun t => c * f t) a pre r = c * sx f a pre r
  | [], _ => (G.mul_zero _).symm
  | x :: r, pre => by
    show c * f x * _ + sx _ a _ r = c * (f x * _ + sx f a _ r)
    rw [sx_mul c f a r, G.mul_add]; ac_rfl
theorem sx_pre (f : G → G) (a : G) : ∀ (r pre pre' : List G), (∀ g : G → G, pr g pre = pr g pre') → sx f a pre r = sx f a pre' r
  | [], _, _, _ => rfl
  | x :: r, pre, pre', h => by
    show f x * wt a x (pre ++ r) + sx f a (pre ++ [x]) r = f x * wt a x (pre' ++ r) + sx f a (pre' ++ [x]) r
    rw [sx_pre f a r (pre ++ [x]) (pre' ++ [x]) (fun g => by rw [pr_append, pr_append, h])]
    unfold wt
    rw [pr_append, pr_append, h]
theorem sx_congr {f g : G → G} (h : ∀ t, f t = g t) (a : G) (pre r : List G) : sx f a pre r = sx g a pre r := by
  rw [show f = g from funext h]
/-- A factor that is nought at a point takes the point out. -/
theorem sx_out (g : G → G) (a x0 : G) : ∀ (r pre : List G), (∀ x ∈ r, x ≠ x0) → sx (fun t => (t + x0) * g t) a (x0 :: pre) r = (a + x0) * sx g a pre r
  | [], _, _ => (G.mul_zero _).symm
  | x :: r, pre, h => by
    have hx := G.mul_inv (G.add_ne (h x (by simp)))
    have ih := sx_out g a x0 r (pre ++ [x]) (fun y hy => h y (by simp [hy]))
    show (x + x0) * g x * ((a + x0) * (x + x0).inv * wt a x (pre ++ r)) + sx _ a (x0 :: (pre ++ [x])) r = (a + x0) * (g x * wt a x (pre ++ r) + sx g a (pre ++ [x]) r)
    rw [ih, G.mul_add]
    congr 1
    calc (x + x0) * g x * ((a + x0) * (x + x0).inv * wt a x (pre ++ r))
        = (x + x0) * (x + x0).inv * ((a + x0) * (g x * wt a x (pre ++ r))) := by ac_rfl
      _ = _ := by rw [hx, G.one_mul]
theorem sum_out (g : G → G) (a x0 : G) (l : List G) (h : ∀ x ∈ l, x ≠ x0) : sx (fun t => (t + x0) * g t) a [] (x0 :: l) = (a + x0) * sx g a [] l := by
  show (x0 + x0) * g x0 * _ + sx _ a [x0] l = _
  rw [G.add_self, G.zero_mul, G.zero_mul, G.zero_add, sx_out g a x0 l [] h]
theorem sum_swap (f : G → G) (a x0 x1 : G) (r : List G) : sx f a [] (x0 :: x1 :: r) = sx f a [] (x1 :: x0 :: r) := by
  show f x0 * wt a x0 (x1 :: r) + (f x1 * wt a x1 (x0 :: r) + sx f a [x0, x1] r) = f x1 * wt a x1 (x0 :: r) + (f x0 * wt a x0 (x1 :: r) + sx f a [x1, x0] r)
  rw [sx_pre f a r [x0, x1] [x1, x0] (fun g => by simp only [pr]; ac_rfl)]
  ac_rfl
theorem sum_one (a : G) : ∀ (n : Nat) (l : List G), l.length = n → 0 < n → l.Nodup → sx (fun _ => G.one) a [] l = G.one := by
  intro n
  induction n with
  | zero => intro _ _ h; omega
  | succ n ih =>
    intro l hl _ hnd
    match l, hl with
    | [x], _ =>
      show G.one * G.one + G.zero = G.one
      rw [G.add_zero, G.mul_one]
    | x0 :: x1 :: r, hl =>
      simp only [List.length_cons] at hl
      simp only [List.nodup_cons, List.mem_cons, not_or] at hnd
      obtain ⟨⟨h01, h0r⟩, h1r, hr⟩ := hnd
      have e0 := sum_out (fun _ => G.one) a x0 (x1 :: r) (by intro x hx; simp at hx; rcases hx with rfl | hx; exact fun e => h01 e.symm; exact fun e => h0r (e ▸ hx))
      have e1 := sum_out (fun _ => G.one) a x1 (x0 :: r) (by intro x hx; simp at hx; rcases hx with rfl | hx; exact h01; exact fun e => h1r (e ▸ hx))
      rw [ih (x1 :: r) (by simp; omega) (by omega) (List.nodup_cons.2 ⟨h1r, hr⟩)] at e0
      rw [ih (x0 :: r) (by simp; omega) (by omega) (List.nodup_cons.2 ⟨h0r, hr⟩), ← sum_swap] at e1
      have hu := G.add_ne h01
      have hs := sx_add (fun t => (t + x0) * G.one) (fun t => (t + x1) * G.one) a (x0 :: x1 :: r) []
      rw [e0, e1] at hs
      have hc : ∀ t : G, (t + x0) * G.one + (t + x1) * G.one = (x0 + x1) * G.one := fun t => by
        rw [← G.add_mul]
        congr 1
        calc t + x0 + (t + x1) = t + t + (x0 + x1) := by ac_rfl
          _ = _ := by rw [G.add_self, G.zero_add]
      rw [sx_congr hc, sx_mul, hc a, G.mul_one] at hs
      calc sx (fun _ => G.one) a [] (x0 :: x1 :: r)
          = (x0 + x1) * (x0 + x1).inv * sx (fun _ => G.one) a [] (x0 :: x1 :: r) := by rw [G.mul_inv hu, G.one_mul]
        _ = (x0 + x1).inv * ((x0 + x1) * sx (fun _ => G.one) a [] (x0 :: x1 :: r)) := by ac_rfl
        _ = (x0 + x1) * (x0 + x1).inv := by rw [hs]; ac_rfl
        _ = G.one := G.mul_inv hu
/-- A polynomial is its value at a point, and the rest times what is nought there. -/
def qut (x0 : G) : List G → List G
  | [] => []
  | _ :: p => match p with
    | [] => []
    | _ => pev p x0 :: qut x0 p
theorem qut_len (x0 : G) : ∀ p : List G, (qut x0 p).length = p.length - 1
  | [] => rfl
  | [_] => rfl
  | _ :: d :: p => by
    have := qut_len x0 (d :: p)
    simp only [List.length_cons, Nat.add_sub_cancel] at this ⊢
    show (pev (d :: p) x0 :: qut x0 (d :: p)).length = _
    simp [this]
theorem qut_eq (x0 t : G) : ∀ p : List G, pev p t = pev p x0 + (t + x0) * pev (qut x0 p) t
  | [] => by show G.zero = G.zero + (t + x0) * G.zero; rw [G.mul_zero, G.add_zero]
  | [c] => by show c + G.zero * t = c + G.zero * x0 + (t + x0) * G.zero; rw [G.zero_mul, G.zero_mul, G.mul_zero, G.add_zero, G.add_zero]
  | c :: d :: p => by
    have ih := qut_eq x0 t (d :: p)
    generalize hz : pev (d :: p) x0 = z at ih
    generalize hy : pev (qut x0 (d :: p)) t = y at ih
    show c + pev (d :: p) t * t = c + pev (d :: p) x0 * x0 + (t + x0) * (pev (d :: p) x0 + pev (qut x0 (d :: p)) t * t)
    rw [hz, hy, ih, G.mul_add, G.add_mul t x0 z, G.add_mul z]
    calc c + (z * t + (t + x0) * y * t) = c + (z * x0 + z * x0) + (t * z + (t + x0) * (y * t)) := by rw [G.add_self, G.add_zero]; ac_rfl
      _ = _ := by ac_rfl
theorem lagrange (a : G) : ∀ (n : Nat) (l p : List G), l.length = n → p.length ≤ n → l.Nodup → sx (pev p) a [] l = pev p a := by
  intro n
  induction n with
  | zero =>
    intro l p hl hp _
    have e1 := List.eq_nil_of_length_eq_zero hl
    have e2 : p = [] := List.eq_nil_of_length_eq_zero (by omega)
    subst e1 e2; rfl
  | succ n ih =>
    intro l p hl hp hnd
    match l, hl with
    | x0 :: l, hl =>
      have hone := sum_one a (n + 1) (x0 :: l) hl (by omega) hnd
      simp only [List.length_cons] at hl
      have hno : ∀ x ∈ l, x ≠ x0 := fun x hx e => (List.nodup_cons.1 hnd).1 (e ▸ hx)
      rw [sx_congr (fun t => (qut_eq x0 t p).trans (by rw [← G.mul_one (pev p x0)])), sx_add, sx_mul, hone, G.mul_one, sum_out _ a x0 l hno,
        ih l (qut x0 p) (by omega) (by rw [qut_len]; omega) (List.nodup_cons.1 hnd).2]
      exact (qut_eq x0 a p).symm
end Go.Proofs.Ytdmfecaejdiihaa.F

/- The same of natural numbers: sums of products of values and weights. -/
set_option linter.unusedVariables false
set_option linter.unusedSimpArgs false
namespace Go.Proofs.Ytdmfecaejdiihaa.F

def refWeightAt (l : List Nat) (a i : Nat) : Nat := pbut (fun q => gm (a ^^^ q) (ginv (l.getD i 0 ^^^ q))) i l 0 1
theorem ginv_gm {a b : Nat} (ha : a < 256) (hb : b < 256) : ginv (gm a b) = gm (ginv a) (ginv b) := by
  by_cases h1 : a = 0
  · subst h1; rw [gm_zero_left]; show 0 = gm 0 _; rw [gm_zero_left]
  by_cases h2 : b = 0
  · subst h2; rw [gm_zero_right]; show 0 = gm _ 0; rw [gm_zero_right]
  have la := ginv_lt ha
  have lb := ginv_lt hb
  refine (ginv_unique (gm_lt ha b) (gm_lt la _) ?_).symm
  rw [gm_comm la lb, gm_assoc (gm_lt ha b) lb la, ← gm_assoc ha hb lb, gm_ginv hb h2, gm_one ha, gm_ginv ha h1]
theorem pbut_quo (f g : Nat → Nat) (i : Nat) (hf : ∀ x, x < 256 → f x < 256) (hg : ∀ x, x < 256 → g x < 256) : ∀ (l : List Nat) (k o1 o2 : Nat), (∀ x ∈ l, x < 256) → o1 < 256 → o2 < 256 →
    gm (pbut f i l k o1) (ginv (pbut g i l k o2)) = pbut (fun q => gm (f q) (ginv (g q))) i l k (gm o1 (ginv o2))
  | [], _, _, _, _, _, _ => rfl
  | x :: l, k, o1, o2, hl, h1, h2 => by
    have hx := hl x (by simp)
    have lf := hf x hx
    have lg := hg x hx
    simp only [pbut]
    rw [pbut_quo f g i hf hg l (k + 1) _ _ (fun y hy => hl y (by simp [hy])) (by split; exact h1; exact gm_lt h1 _) (by split; exact h2; exact gm_lt h2 _)]
    congr 1
    by_cases e : k = i
    · simp [e]
    · simp only [if_neg e]
      have i2 := ginv_lt h2
      have ig := ginv_lt lg
      rw [ginv_gm h2 lg, ← gm_assoc h1 lf (gm_lt i2 _), gm_assoc lf i2 ig, gm_comm lf i2, ← gm_assoc i2 lf ig, gm_assoc h1 i2 (gm_lt lf _)]
theorem weights_eq (l : List Nat) (a : Nat) (hl : ∀ x ∈ l, x < 256) (ha : a < 256) : (List.range l.length).map (refWeightAt l a) = weights l a := by
  unfold weights
  refine List.map_congr_left fun i hi => ?_
  have hi' : i < l.length := List.mem_range.1 hi
  have hy : l.getD i 0 < 256 := by rw [List.getD_eq_getElem?_getD, List.getElem?_eq_getElem hi']; exact hl _ (List.getElem_mem _)
  have h1 : gm 1 (ginv 1) = 1 := by decide +kernel
  have := pbut_quo (fun q => a ^^^ q) (fun q => l.getD i 0 ^^^ q) i (fun x hx => xor_lt ha hx) (fun x hx => xor_lt hy hx) l 0 1 1 hl (by omega) (by omega)
  rw [h1] at this
  exact this.symm
theorem geval_G (P : List G) (t : G) : geval (P.map G.val) t.val = (pev P t).val := by
  induction P with
  | nil => rfl
  | cons c P ih => show c.val ^^^ gm (geval (P.map G.val) t.val) t.val = _; rw [ih]; rfl
theorem pbut_ahead (f : Nat → Nat) (F : G → G) (hF : ∀ x : G, f x.val = (F x).val) (i : Nat) (m : List Nat) : ∀ (A : List G) (k : Nat) (o : G), k + A.length ≤ i →
    pbut f i (A.map G.val ++ m) k o.val = pbut f i m (k + A.length) (o * pr F A).val
  | [], k, o, _ => by show pbut f i m k o.val = pbut f i m k (o * G.one).val; rw [G.mul_one]
  | x :: A, k, o, h => by
    simp only [List.length_cons] at h ⊢
    show pbut f i (A.map G.val ++ m) (k + 1) (if k = i then o.val else gm o.val (f x.val)) = _
    rw [if_neg (by omega), hF x, ← G.mul_def, pbut_ahead f F hF i m A (k + 1) (o * F x) (by omega), show k + 1 + A.length = k + (A.length + 1) by omega]
    show _ = pbut f i m _ (o * (F x * pr F A)).val
    rw [G.mul_assoc]
theorem pbut_behind (f : Nat → Nat) (F : G → G) (hF : ∀ x : G, f x.val = (F x).val) (i : Nat) : ∀ (B : List G) (k : Nat) (o : G), i < k → pbut f i (B.map G.val) k o.val = (o * pr F B).val
  | [], _, o, _ => by show o.val = (o * G.one).val; rw [G.mul_one]
  | x :: B, k, o, h => by
    show pbut f i (B.map G.val) (k + 1) (if k = i then o.val else gm o.val (f x.val)) = _
    rw [if_neg (by omega), hF x, ← G.mul_def, pbut_behind f F hF i B (k + 1) (o * F x) (by omega)]
    show _ = (o * (F x * pr F B)).val
    rw [G.mul_assoc]
theorem refWeightAt_G (a x : G) (A B : List G) : refWeightAt ((A ++ x :: B).map G.val) a.val A.length = (wt a x (A ++ B)).val := by
  unfold refWeightAt
  have hx : ((A ++ x :: B).map G.val).getD A.length 0 = x.val := by simp [List.getD_eq_getElem?_getD]
  rw [hx]
  have hF : ∀ q : G, gm (a.val ^^^ q.val) (ginv (x.val ^^^ q.val)) = ((a + q) * (x + q).inv).val := fun _ => rfl
  have h1 := pbut_ahead (fun q => gm (a.val ^^^ q) (ginv (x.val ^^^ q))) (fun q => (a + q) * (x + q).inv) hF A.length ((x :: B).map G.val) A 0 G.one (by omega)
  rw [List.map_append]
  refine h1.trans ?_
  show pbut _ A.length (x.val :: B.map G.val) (0 + A.length) _ = _
  simp only [pbut, Nat.zero_add, if_true]
  rw [pbut_behind _ _ hF A.length B (A.length + 1) _ (by omega), G.one_mul]
  unfold wt
  rw [pr_append]
theorem gdot_sx (P : List G) (a : G) : ∀ (R A : List G) (l : List Nat), l = (A ++ R).map G.val →
    gdot ((R.map G.val).map (geval (P.map G.val))) ((List.range' A.length R.length).map (refWeightAt l a.val)) = (sx (pev P) a A R).val
  | [], _, _, _ => rfl
  | x :: R, A, l, hl => by
    have ih := gdot_sx P a R (A ++ [x]) l (by rw [hl]; simp)
    simp only [List.length_append, List.length_cons, List.length_nil, Nat.zero_add] at ih
    simp only [List.map_cons, List.length_cons, List.range'_succ]
    show gm (geval (P.map G.val) x.val) (refWeightAt l a.val A.length) ^^^ gdot _ _ = _
    rw [ih, geval_G, hl, refWeightAt_G]
    rfl
theorem exists_G (l : List Nat) (hl : ∀ x ∈ l, x < 256) : ∃ L : List G, L.map G.val = l := by
  induction l with
  | nil => exact ⟨[], rfl⟩
  | cons x l ih =>
    obtain ⟨L, hL⟩ := ih fun y hy => hl y (by simp [hy])
    exact ⟨⟨x, hl x (by simp)⟩ :: L, by simp [hL]⟩
theorem nodup_G {L : List G} (h : (L.map G.val).Nodup) : L.Nodup := by
  induction L with
  | nil => simp
  | cons x L ih =>
    simp only [List.map_cons, List.nodup_cons] at h ⊢
    exact ⟨fun hx => h.1 (List.mem_map_of_mem hx), ih h.2⟩
/-- The values at some points, by their weights, are the value elsewhere. -/
theorem through (l p : List Nat) (a : Nat) (hl : ∀ x ∈ l, x < 256) (hp : ∀ x ∈ p, x < 256) (ha : a < 256) (hnd : l.Nodup) (hle : p.length ≤ l.length) : gdot (l.map (geval p)) (weights l a) = geval p a := by
  obtain ⟨L, rfl⟩ := exists_G l hl
  obtain ⟨P, rfl⟩ := exists_G p hp
  have h := gdot_sx P ⟨a, ha⟩ L [] (L.map G.val) rfl
  rw [lagrange ⟨a, ha⟩ L.length L P rfl (by simpa using hle) (nodup_G hnd)] at h
  rw [← weights_eq _ a hl ha, List.range_eq_range', show ((L.map G.val).length) = L.length by simp]
  exact h.trans (geval_G P ⟨a, ha⟩).symm
end Go.Proofs.Ytdmfecaejdiihaa.F

/- A group told from any k of its points is the same group. -/
set_option linter.unusedVariables false
set_option linter.unusedSimpArgs false
namespace Go.Proofs.Ytdmfecaejdiihaa.F

def padd : List Nat → List Nat → List Nat
  | [], b => b
  | a, [] => a
  | x :: a, y :: b => (x ^^^ y) :: padd a b
theorem padd_nil (a : List Nat) : padd a [] = a := by cases a <;> rfl
theorem padd_len : ∀ a b : List Nat, (padd a b).length = max a.length b.length
  | [], b => by simp [padd]
  | x :: a, [] => by simp [padd]
  | x :: a, y :: b => by
    simp only [padd, List.length_cons, padd_len a b]
    omega
theorem padd_lt : ∀ a b : List Nat, (∀ x ∈ a, x < 256) → (∀ x ∈ b, x < 256) → ∀ x ∈ padd a b, x < 256
  | [], b, _, hb => by simpa [padd] using hb
  | x :: a, [], ha, _ => by simpa [padd] using ha
  | x :: a, y :: b, ha, hb => by
    intro z hz
    simp only [padd, List.mem_cons] at hz
    rcases hz with rfl | hz
    · exact xor_lt (ha x (by simp)) (hb y (by simp))
    · exact padd_lt a b (fun w hw => ha w (by simp [hw])) (fun w hw => hb w (by simp [hw])) z hz
theorem geval_padd {x : Nat} (hx : x < 256) : ∀ a b : List Nat, (∀ z ∈ a, z < 256) → (∀ z ∈ b, z < 256) → geval (padd a b) x = geval a x ^^^ geval b x
  | [], b, _, _ => by simp [padd, geval]
  | y :: a, [], _, _ => by simp [padd, geval]
  | y :: a, z :: b, ha, hb => by
    have ha2 : ∀ w ∈ a, w < 256 := fun w hw => ha w (by simp [hw])
    have hb2 : ∀ w ∈ b, w < 256 := fun w hw => hb w (by simp [hw])
    show (y ^^^ z) ^^^ gm (geval (padd a b) x) x = (y ^^^ gm (geval a x) x) ^^^ (z ^^^ gm (geval b x) x)
    rw [geval_padd hx a b ha2 hb2, gm_xor_left x (geval_lt ha2 hx) (geval_lt hb2 hx)]
    ac_rfl
def pscale (c : Nat) (p : List Nat) : List Nat := p.map (gm c)
theorem pscale_len (c : Nat) (p : List Nat) : (pscale c p).length = p.length := by simp [pscale]
theorem pscale_lt {c : Nat} (hc : c < 256) (p : List Nat) : ∀ x ∈ pscale c p, x < 256 := fun x hx => by
  obtain ⟨y, _, rfl⟩ := List.mem_map.1 hx
  exact gm_lt hc y
theorem geval_pscale {c x : Nat} (hc : c < 256) (hx : x < 256) : ∀ p : List Nat, (∀ z ∈ p, z < 256) → geval (pscale c p) x = gm c (geval p x)
  | [], _ => (gm_zero_right c).symm
  | y :: p, hp => by
    have hp2 : ∀ w ∈ p, w < 256 := fun w hw => hp w (by simp [hw])
    show gm c y ^^^ gm (geval (pscale c p) x) x = gm c (y ^^^ gm (geval p x) x)
    rw [geval_pscale hc hx p hp2, gm_xor_right, gm_assoc hc (geval_lt hp2 hx) hx]
/-- The product of (x + r) over a list but one place, as a polynomial. -/
def pbutP (but : Nat) : List Nat → Nat → List Nat → List Nat
  | [], _, o => o
  | r :: l, i, o => pbutP but l (i + 1) (if i = but then o else padd (pscale r o) (0 :: o))
theorem pbutP_lt (but : Nat) : ∀ (l : List Nat) (i : Nat) (o : List Nat), (∀ x ∈ l, x < 256) → (∀ x ∈ o, x < 256) → ∀ x ∈ pbutP but l i o, x < 256
  | [], _, _, _, ho => ho
  | r :: l, i, o, hl, ho => by
    refine pbutP_lt but l (i + 1) _ (fun x hx => hl x (by simp [hx])) ?_
    split
    · exact ho
    · refine padd_lt _ _ (pscale_lt (hl r (by simp)) o) (fun x hx => ?_)
      rcases List.mem_cons.1 hx with rfl | hx
      · omega
      · exact ho x hx
theorem pbutP_len (but : Nat) : ∀ (l : List Nat) (i : Nat) (o : List Nat), (pbutP but l i o).length ≤ o.length + l.length
  | [], _, o => by simp [pbutP]
  | r :: l, i, o => by
    have h := pbutP_len but l (i + 1) (if i = but then o else padd (pscale r o) (0 :: o))
    simp only [pbutP, List.length_cons]
    have h2 : (if i = but then o else padd (pscale r o) (0 :: o)).length ≤ o.length + 1 := by
      split
      · omega
      · rw [padd_len, pscale_len, List.length_cons]; omega
    omega
theorem pbutP_len2 (but : Nat) : ∀ (l : List Nat) (i : Nat) (o : List Nat), i ≤ but → but < i + l.length → (pbutP but l i o).length + 1 ≤ o.length + l.length
  | [], i, o, h1, h2 => by simp at h2; omega
  | r :: l, i, o, h1, h2 => by
    simp only [pbutP, List.length_cons] at h2 ⊢
    by_cases h : i = but
    · rw [if_pos h]
      have := pbutP_len but l (i + 1) o
      omega
    · rw [if_neg h]
      have h3 := pbutP_len2 but l (i + 1) (padd (pscale r o) (0 :: o)) (by omega) (by omega)
      rw [padd_len, pscale_len, List.length_cons] at h3
      omega
theorem geval_pbutP (but : Nat) {x : Nat} (hx : x < 256) : ∀ (l : List Nat) (i : Nat) (o : List Nat), (∀ z ∈ l, z < 256) → (∀ z ∈ o, z < 256) → geval (pbutP but l i o) x = pbut (fun r => x ^^^ r) but l i (geval o x)
  | [], _, _, _, _ => rfl
  | r :: l, i, o, hl, ho => by
    have hr := hl r (by simp)
    have h0 : ∀ z ∈ 0 :: o, z < 256 := fun z hz => by
      rcases List.mem_cons.1 hz with rfl | hz
      · omega
      · exact ho z hz
    have hn : ∀ z ∈ (if i = but then o else padd (pscale r o) (0 :: o)), z < 256 := by
      split
      · exact ho
      · exact padd_lt _ _ (pscale_lt hr o) h0
    show geval (pbutP but l (i + 1) _) x = pbut _ but l (i + 1) _
    rw [geval_pbutP but hx l (i + 1) _ (fun z hz => hl z (by simp [hz])) hn]
    congr 1
    by_cases h : i = but
    · rw [if_pos h, if_pos h]
    · rw [if_neg h, if_neg h, geval_padd hx _ _ (pscale_lt hr o) h0, geval_pscale hr hx o ho, gm_xor_right, gm_comm hr (geval_lt ho hx)]
      show _ ^^^ (0 ^^^ gm (geval o x) x) = _
      rw [Nat.zero_xor, Nat.xor_comm]
/-- Each sum of products with the weights is a polynomial's value. -/
theorem sum_poly (P : List Nat) (hP : ∀ x ∈ P, x < 256) : ∀ (c js : List Nat), (∀ x ∈ c, x < 256) → (∀ j ∈ js, j < P.length) →
    ∃ p : List Nat, p.length ≤ P.length ∧ (∀ x ∈ p, x < 256) ∧ ∀ q, q < 256 → geval p q = gdot c (js.map (weightAt P q))
  | [], js, _, _ => ⟨[], by simp, by simp, fun q _ => by simp [geval, gdot]⟩
  | y :: c, [], _, _ => ⟨[], by simp, by simp, fun q _ => by simp [geval, gdot]⟩
  | y :: c, j :: js, hc, hj => by
    obtain ⟨p, h1, h2, h3⟩ := sum_poly P hP c js (fun x hx => hc x (by simp [hx])) (fun x hx => hj x (by simp [hx]))
    have hjl := hj j (by simp)
    have hy := hc y (by simp)
    obtain ⟨K, hK⟩ : ∃ K, ginv (pbut (fun q => P.getD j 0 ^^^ q) j P 0 1) = K := ⟨_, rfl⟩
    have hKl : K < 256 := by rw [← hK]; exact ginv_lt (pbut_lt _ _ _ _ (by omega))
    have hb : ∀ z ∈ pbutP j P 0 [1], z < 256 := pbutP_lt j P 0 [1] hP (by simp)
    have hs : gm y K < 256 := gm_lt hy K
    refine ⟨padd (pscale (gm y K) (pbutP j P 0 [1])) p, ?_, padd_lt _ _ (pscale_lt hs _) h2, fun q hq => ?_⟩
    · have := pbutP_len2 j P 0 [1] (by omega) (by omega)
      rw [padd_len, pscale_len]
      simp only [List.length_singleton] at this
      omega
    · rw [geval_padd hq _ _ (pscale_lt hs _) h2, geval_pscale hs hq _ hb, geval_pbutP j hq P 0 [1] hP (by simp), h3 q hq]
      have e1 : geval [1] q = 1 := by simp [geval, gm_zero_left]
      rw [e1]
      show _ = gm y (weightAt P q j) ^^^ gdot c (js.map (weightAt P q))
      congr 1
      unfold weightAt
      rw [hK]
      have hbl : pbut (fun r => q ^^^ r) j P 0 1 < 256 := pbut_lt _ _ _ _ (by omega)
      rw [← gm_assoc hy hKl hbl, gm_comm hKl hbl]
theorem recode (P P' : List Nat) (c : List Nat) (x : Nat) (hP : ∀ z ∈ P, z < 256) (hP' : ∀ z ∈ P', z < 256) (hnd : P'.Nodup) (hl : P.length ≤ P'.length) (hc : ∀ z ∈ c, z < 256) (hx : x < 256) :
    gdot (P'.map fun q => gdot c (weights P q)) (weights P' x) = gdot c (weights P x) := by
  obtain ⟨p, h1, h2, h3⟩ := sum_poly P hP c (List.range P.length) hc (fun j hj => List.mem_range.1 hj)
  have e : P'.map (fun q => gdot c (weights P q)) = P'.map (geval p) := List.map_congr_left fun q hq => (h3 q (hP' q hq)).symm
  rw [e, through P' p x hP' h2 hx hnd (by omega)]
  exact h3 x hx
/-- A group told from any k of its points is the same group. -/
theorem atV_any (css : List (List Nat)) (P P' : List Nat) (x L : Nat) (hP : ∀ z ∈ P, z < 256) (hP' : ∀ z ∈ P', z < 256) (hnd : P'.Nodup) (hl : P.length ≤ P'.length) (hb : ∀ cs ∈ css, ∀ y ∈ cs, y < 256) (hx : x < 256) :
    atV (P'.map fun q => atV css P q L) P' x L = atV css P x L := by
  unfold atV
  apply List.map_congr_left
  intro i hi
  have hiL := List.mem_range.1 hi
  have e : colAt (P'.map fun q => (List.range L).map fun i => gdot (colAt css i) (weights P q)) i = P'.map fun q => gdot (colAt css i) (weights P q) := by
    unfold colAt
    rw [List.map_map]
    apply List.map_congr_left
    intro q _
    simp [List.getD_eq_getElem?_getD, hiL]
  rw [e]
  exact recode P P' _ x hP hP' hnd hl (col_lt hb i) hx
end Go.Proofs.Ytdmfecaejdiihaa.F
