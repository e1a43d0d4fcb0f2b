/- Plain mathematics: the values of a polynomial at as many points as it has coefficients, by the points' weights, are its value elsewhere. -/
import Derived.Test.YtpmjkmcehhojhaaFx
namespace Go.Proofs.Ytpmjkmcehhojhaa.F

/-- An element of the field. -/
structure G where
  val : Nat
  lt : val < 256
theorem G.ext {a b : G} (h : a.val = b.val) : a = b := by cases a; cases b; simp at h; subst h; rfl
def G.add (a b : G) : G := ⟨a.val ^^^ b.val, xor_lt a.lt b.lt⟩
def G.mul (a b : G) : G := ⟨gm a.val b.val, gm_lt a.lt _⟩
def G.inv (a : G) : G := ⟨ginv a.val, ginv_lt a.lt⟩
def G.zero : G := ⟨0, by omega⟩
def G.one : G := ⟨1, by omega⟩
instance : Add G := ⟨G.add⟩
instance : Mul G := ⟨G.mul⟩
theorem G.add_def (a b : G) : (a + b).val = a.val ^^^ b.val := rfl
theorem G.mul_def (a b : G) : (a * b).val = gm a.val b.val := rfl
theorem G.add_comm (a b : G) : a + b = b + a := G.ext (Nat.xor_comm _ _)
theorem G.add_assoc (a b c : G) : a + b + c = a + (b + c) := G.ext (Nat.xor_assoc _ _ _)
theorem G.mul_comm (a b : G) : a * b = b * a := G.ext (gm_comm a.lt b.lt)
theorem G.mul_assoc (a b c : G) : a * b * c = a * (b * c) := G.ext (gm_assoc a.lt b.lt c.lt).symm
theorem G.mul_add (a b c : G) : a * (b + c) = a * b + a * c := G.ext (gm_xor_right _ _ _)
theorem G.add_mul (a b c : G) : (a + b) * c = a * c + b * c := G.ext (gm_xor_left _ a.lt b.lt)
theorem G.add_self (a : G) : a + a = G.zero := G.ext (Nat.xor_self _)
theorem G.add_zero (a : G) : a + G.zero = a := G.ext (Nat.xor_zero _)
theorem G.zero_add (a : G) : G.zero + a = a := G.ext (Nat.zero_xor _)
theorem G.zero_mul (a : G) : G.zero * a = G.zero := G.ext (gm_zero_left _)
theorem G.mul_zero (a : G) : a * G.zero = G.zero := G.ext (gm_zero_right _)
theorem G.one_mul (a : G) : G.one * a = a := G.ext (gm_one_left a.lt)
theorem G.mul_one (a : G) : a * G.one = a := G.ext (gm_one a.lt)
theorem G.mul_inv {a : G} (h : a ≠ G.zero) : a * a.inv = G.one := G.ext (gm_ginv a.lt fun e => h (G.ext e))
theorem G.add_ne {a b : G} (h : a ≠ b) : a + b ≠ G.zero := fun e => h (by
  have : a + b + b = G.zero + b := by rw [e]
  rwa [G.add_assoc, G.add_self, G.add_zero, G.zero_add] at this)
instance : Std.Associative (α := G) (· * ·) := ⟨G.mul_assoc⟩
instance : Std.Commutative (α := G) (· * ·) := ⟨G.mul_comm⟩
instance : Std.Associative (α := G) (· + ·) := ⟨G.add_assoc⟩
instance : Std.Commutative (α := G) (· + ·) := ⟨G.add_comm⟩

def pev : List G → G → G
  | [], _ => G.zero
  | c :: p, x => c + pev p x * x
/-- A product over a list. -/
def pr (f : G → G) : List G → G
  | [] => G.one
  | x :: l => f x * pr f l
theorem pr_append (f : G → G) (l m : List G) : pr f (l ++ m) = pr f l * pr f m := by
  induction l with
  | nil => exact (G.one_mul _).symm
  | cons x l ih => show f x * pr f (l ++ m) = f x * pr f l * pr f m; rw [ih]; ac_rfl
def wt (a x : G) (o : List G) : G := pr (fun q => (a + q) * (x + q).inv) o
/-- The sum over the rest, the ahead ones put by. -/
def sx (f : G → G) (a : G) : List G → List G → G
  | _, [] => G.zero
  | pre, x :: r => f x * wt a x (pre ++ r) + sx f a (pre ++ [x]) r
theorem sx_add (f g : G → G) (a : G) : ∀ (r pre : List G), sx (fun t => f t + g t) a pre r = sx f a pre r + sx g a pre r
  | [], _ => (G.add_zero _).symm
  | x :: r, pre => by
    show (f x + g x) * _ + sx _ a _ r = (f x * _ + sx f a _ r) + (g x * _ + sx g a _ r)
    rw [sx_add f g a r, G.add_mul]; ac_rfl
theorem sx_mul (c : G) (f : G → G) (a : G) : ∀ (r pre : List G), sx (fun t => c * f t) a pre r = c * sx f a pre r
  | [], _ => (G.mul_zero _).symm
  | x :: r, pre => by
    show c * f x * _ + sx _ a _ r = c * (f x * _ + sx f a _ r)
    rw [sx_mul c f a r, G.mul_add]; ac_rfl
theorem sx_pre (f : G → G) (a : G) : ∀ (r pre pre' : List G), (∀ g : G → G, pr g pre = pr g pre') → sx f a pre r = sx f a pre' r
  | [], _, _, _ => rfl
  | x :: r, pre, pre', h => by
    show f x * wt a x (pre ++ r) + sx f a (pre ++ [x]) r = f x * wt a x (pre' ++ r) + sx f a (pre' ++ [x]) r
    rw [sx_pre f a r (pre ++ [x]) (pre' ++ [x]) (fun g => by rw [pr_append, pr_append, h])]
    unfold wt
    rw [pr_append, pr_append, h]
theorem sx_congr {f g : G → G} (h : ∀ t, f t = g t) (a : G) (pre r : List G) : sx f a pre r = sx g a pre r := by
  rw [show f = g from funext h]
/-- A factor that is nought at a point takes the point out. -/
theorem sx_out (g : G → G) (a x0 : G) : ∀ (r pre : List G), (∀ x ∈ r, x ≠ x0) → sx (fun t => (t + x0) * g t) a (x0 :: pre) r = (a + x0) * sx g a pre r
  | [], _, _ => (G.mul_zero _).symm
  | x :: r, pre, h => by
    have hx := G.mul_inv (G.add_ne (h x (by simp)))
    have ih := sx_out g a x0 r (pre ++ [x]) (fun y hy => h y (by simp [hy]))
    show (x + x0) * g x * ((a + x0) * (x + x0).inv * wt a x (pre ++ r)) + sx _ a (x0 :: (pre ++ [x])) r = (a + x0) * (g x * wt a x (pre ++ r) + sx g a (pre ++ [x]) r)
    rw [ih, G.mul_add]
    congr 1
    calc (x + x0) * g x * ((a + x0) * (x + x0).inv * wt a x (pre ++ r))
        = (x + x0) * (x + x0).inv * ((a + x0) * (g x * wt a x (pre ++ r))) := by ac_rfl
      _ = _ := by rw [hx, G.one_mul]
theorem sum_out (g : G → G) (a x0 : G) (l : List G) (h : ∀ x ∈ l, x ≠ x0) : sx (fun t => (t + x0) * g t) a [] (x0 :: l) = (a + x0) * sx g a [] l := by
  show (x0 + x0) * g x0 * _ + sx _ a [x0] l = _
  rw [G.add_self, G.zero_mul, G.zero_mul, G.zero_add, sx_out g a x0 l [] h]
theorem sum_swap (f : G → G) (a x0 x1 : G) (r : List G) : sx f a [] (x0 :: x1 :: r) = sx f a [] (x1 :: x0 :: r) := by
  show f x0 * wt a x0 (x1 :: r) + (f x1 * wt a x1 (x0 :: r) + sx f a [x0, x1] r) = f x1 * wt a x1 (x0 :: r) + (f x0 * wt a x0 (x1 :: r) + sx f a [x1, x0] r)
  rw [sx_pre f a r [x0, x1] [x1, x0] (fun g => by simp only [pr]; ac_rfl)]
  ac_rfl
theorem sum_one (a : G) : ∀ (n : Nat) (l : List G), l.length = n → 0 < n → l.Nodup → sx (fun _ => G.one) a [] l = G.one := by
  intro n
  induction n with
  | zero => intro _ _ h; omega
  | succ n ih =>
    intro l hl _ hnd
    match l, hl with
    | [x], _ =>
      show G.one * G.one + G.zero = G.one
      rw [G.add_zero, G.mul_one]
    | x0 :: x1 :: r, hl =>
      simp only [List.length_cons] at hl
      simp only [List.nodup_cons, List.mem_cons, not_or] at hnd
      obtain ⟨⟨h01, h0r⟩, h1r, hr⟩ := hnd
      have e0 := sum_out (fun _ => G.one) a x0 (x1 :: r) (by intro x hx; simp at hx; rcases hx with rfl | hx; exact fun e => h01 e.symm; exact fun e => h0r (e ▸ hx))
      have e1 := sum_out (fun _ => G.one) a x1 (x0 :: r) (by intro x hx; simp at hx; rcases hx with rfl | hx; exact h01; exact fun e => h1r (e ▸ hx))
      rw [ih (x1 :: r) (by simp; omega) (by omega) (List.nodup_cons.2 ⟨h1r, hr⟩)] at e0
      rw [ih (x0 :: r) (by simp; omega) (by omega) (List.nodup_cons.2 ⟨h0r, hr⟩), ← sum_swap] at e1
      have hu := G.add_ne h01
      have hs := sx_add (fun t => (t + x0) * G.one) (fun t => (t + x1) * G.one) a (x0 :: x1 :: r) []
      rw [e0, e1] at hs
      have hc : ∀ t : G, (t + x0) * G.one + (t + x1) * G.one = (x0 + x1) * G.one := fun t => by
        rw [← G.add_mul]
        congr 1
        calc t + x0 + (t + x1) = t + t + (x0 + x1) := by ac_rfl
          _ = _ := by rw [G.add_self, G.zero_add]
      rw [sx_congr hc, sx_mul, hc a, G.mul_one] at hs
      calc sx (fun _ => G.one) a [] (x0 :: x1 :: r)
          = (x0 + x1) * (x0 + x1).inv * sx (fun _ => G.one) a [] (x0 :: x1 :: r) := by rw [G.mul_inv hu, G.one_mul]
        _ = (x0 + x1).inv * ((x0 + x1) * sx (fun _ => G.one) a [] (x0 :: x1 :: r)) := by ac_rfl
        _ = (x0 + x1) * (x0 + x1).inv := by rw [hs]; ac_rfl
        _ = G.one := G.mul_inv hu
/-- A polynomial is its value at a point, and the rest times what is nought there. -/
def qut (x0 : G) : List G → List G
  | [] => []
  | _ :: p => match p with
    | [] => []
    | _ => pev p x0 :: qut x0 p
theorem qut_len (x0 : G) : ∀ p : List G, (qut x0 p).length = p.length - 1
  | [] => rfl
  | [_] => rfl
  | _ :: d :: p => by
    have := qut_len x0 (d :: p)
    simp only [List.length_cons, Nat.add_sub_cancel] at this ⊢
    show (pev (d :: p) x0 :: qut x0 (d :: p)).length = _
    simp [this]
theorem qut_eq (x0 t : G) : ∀ p : List G, pev p t = pev p x0 + (t + x0) * pev (qut x0 p) t
  | [] => by show G.zero = G.zero + (t + x0) * G.zero; rw [G.mul_zero, G.add_zero]
  | [c] => by show c + G.zero * t = c + G.zero * x0 + (t + x0) * G.zero; rw [G.zero_mul, G.zero_mul, G.mul_zero, G.add_zero, G.add_zero]
  | c :: d :: p => by
    have ih := qut_eq x0 t (d :: p)
    generalize hz : pev (d :: p) x0 = z at ih
    generalize hy : pev (qut x0 (d :: p)) t = y at ih
    show c + pev (d :: p) t * t = c + pev (d :: p) x0 * x0 + (t + x0) * (pev (d :: p) x0 + pev (qut x0 (d :: p)) t * t)
    rw [hz, hy, ih, G.mul_add, G.add_mul t x0 z, G.add_mul z]
    calc c + (z * t + (t + x0) * y * t) = c + (z * x0 + z * x0) + (t * z + (t + x0) * (y * t)) := by rw [G.add_self, G.add_zero]; ac_rfl
      _ = _ := by ac_rfl
theorem lagrange (a : G) : ∀ (n : Nat) (l p : List G), l.length = n → p.length ≤ n → l.Nodup → sx (pev p) a [] l = pev p a := by
  intro n
  induction n with
  | zero =>
    intro l p hl hp _
    have e1 := List.eq_nil_of_length_eq_zero hl
    have e2 : p = [] := List.eq_nil_of_length_eq_zero (by omega)
    subst e1 e2; rfl
  | succ n ih =>
    intro l p hl hp hnd
    match l, hl with
    | x0 :: l, hl =>
      have hone := sum_one a (n + 1) (x0 :: l) hl (by omega) hnd
      simp only [List.length_cons] at hl
      have hno : ∀ x ∈ l, x ≠ x0 := fun x hx e => (List.nodup_cons.1 hnd).1 (e ▸ hx)
      rw [sx_congr (fun t => (qut_eq x0 t p).trans (by rw [← G.mul_one (pev p x0)])), sx_add, sx_mul, hone, G.mul_one, sum_out _ a x0 l hno,
        ih l (qut x0 p) (by omega) (by rw [qut_len]; omega) (List.nodup_cons.1 hnd).2]
      exact (qut_eq x0 a p).symm
end Go.Proofs.Ytpmjkmcehhojhaa.F
