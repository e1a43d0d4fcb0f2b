/- The check sum's register, in plain numbers: linear, and told apart by a burst. -/
import Derived.WalkKit
set_option linter.unusedVariables false
set_option linter.unusedSimpArgs false
namespace Go.Proofs.Ytejmklfhcealnaa.F

def crcBit (r : Nat) : Nat := if r % 2 = 1 then (r / 2) ^^^ 2197175160 else r / 2
def crcBits : Nat → Nat → Nat
  | 0, r => r
  | n + 1, r => crcBits n (crcBit r)
def crcByte (r b : Nat) : Nat := crcBits 8 (r ^^^ b)
def crcN (r : Nat) (p : List Nat) : Nat := p.foldl crcByte r
def crcMore (s : Nat) (p : List Nat) : Nat := 4294967295 - crcN (4294967295 - s) p

theorem crcBit_lt {r : Nat} (h : r < 4294967296) : crcBit r < 4294967296 := by
  unfold crcBit
  split
  · exact Nat.xor_lt_two_pow (n := 32) (by omega) (by omega)
  · omega
theorem crcBits_lt (n : Nat) : ∀ {r : Nat}, r < 4294967296 → crcBits n r < 4294967296 := by
  induction n with
  | zero => intro r h; exact h
  | succ n ih => intro r h; exact ih (crcBit_lt h)
theorem crcByte_lt {r b : Nat} (h : r < 4294967296) (hb : b < 256) : crcByte r b < 4294967296 := crcBits_lt 8 (Nat.xor_lt_two_pow (n := 32) h (by omega))
theorem crcN_lt (p : List Nat) : ∀ {r : Nat}, r < 4294967296 → (∀ x ∈ p, x < 256) → crcN r p < 4294967296 := by
  induction p with
  | nil => intro r h _; exact h
  | cons b p ih => intro r h hp; exact ih (crcByte_lt h (hp b (by simp))) (fun x hx => hp x (by simp [hx]))
theorem crcN_app (r : Nat) (a b : List Nat) : crcN r (a ++ b) = crcN (crcN r a) b := by unfold crcN; rw [List.foldl_append]
theorem crcMore_app (s : Nat) (a b : List Nat) (hs : s < 4294967296) (ha : ∀ x ∈ a, x < 256) : crcMore s (a ++ b) = crcMore (crcMore s a) b := by
  unfold crcMore
  rw [crcN_app]
  have := crcN_lt a (r := 4294967295 - s) (by omega) ha
  rw [show 4294967295 - (4294967295 - crcN (4294967295 - s) a) = crcN (4294967295 - s) a by omega]
theorem crcMore_lt (s : Nat) (p : List Nat) : crcMore s p < 4294967296 := by unfold crcMore; omega

theorem xor_z {a b : Nat} (h : a ^^^ b = 0) : a = b := by
  have := congrArg (· ^^^ b) h
  simpa [Nat.xor_assoc] using this
theorem half_xor (x y : Nat) : (x ^^^ y) / 2 = x / 2 ^^^ y / 2 := by
  have := Nat.shiftRight_xor_distrib (a := x) (b := y) (i := 1)
  simpa [Nat.shiftRight_eq_div_pow] using this
theorem crcBit_xor (x y : Nat) : crcBit (x ^^^ y) = crcBit x ^^^ crcBit y := by
  unfold crcBit
  rw [half_xor]
  have hm := Nat.xor_mod_two_eq_one (a := x) (b := y)
  by_cases hx : x % 2 = 1 <;> by_cases hy : y % 2 = 1
  · have h : ¬ (x ^^^ y) % 2 = 1 := by rw [hm]; simp [hx, hy]
    rw [if_neg h, if_pos hx, if_pos hy]
    rw [show (x / 2 ^^^ 2197175160) ^^^ (y / 2 ^^^ 2197175160) = (x / 2 ^^^ y / 2) ^^^ (2197175160 ^^^ 2197175160) by ac_rfl, Nat.xor_self, Nat.xor_zero]
  · have h : (x ^^^ y) % 2 = 1 := by rw [hm]; simp [hx, hy]
    rw [if_pos h, if_pos hx, if_neg hy]
    ac_rfl
  · have h : (x ^^^ y) % 2 = 1 := by rw [hm]; simp [hx, hy]
    rw [if_pos h, if_neg hx, if_pos hy]
    ac_rfl
  · have h : ¬ (x ^^^ y) % 2 = 1 := by rw [hm]; simp [hx, hy]
    rw [if_neg h, if_neg hx, if_neg hy]
theorem crcBits_xor (n : Nat) : ∀ (x y : Nat), crcBits n (x ^^^ y) = crcBits n x ^^^ crcBits n y := by
  induction n with
  | zero => intro x y; rfl
  | succ n ih => intro x y; show crcBits n (crcBit (x ^^^ y)) = _; rw [crcBit_xor, ih]; rfl
theorem crcBit_zero {x : Nat} (hx : x < 4294967296) (h : crcBit x = 0) : x = 0 := by
  unfold crcBit at h
  by_cases ho : x % 2 = 1
  · rw [if_pos ho] at h
    have : x / 2 = 2197175160 := xor_z h
    omega
  · rw [if_neg ho] at h
    omega
theorem crcBits_zero (n : Nat) : ∀ {x : Nat}, x < 4294967296 → crcBits n x = 0 → x = 0 := by
  induction n with
  | zero => intro x _ h; exact h
  | succ n ih => intro x hx h; exact crcBit_zero hx (ih (crcBit_lt hx) h)
theorem crcBits_of_zero (n : Nat) : crcBits n 0 = 0 := by
  induction n with
  | zero => rfl
  | succ n ih => exact ih
theorem crcBit_two (y : Nat) : crcBit (2 * y) = y := by
  unfold crcBit
  rw [if_neg (by omega)]
  omega
theorem crcBits_pow (n : Nat) : ∀ (y : Nat), crcBits n (2 ^ n * y) = y := by
  induction n with
  | zero => intro y; simp [crcBits]
  | succ n ih => intro y; show crcBits n (crcBit (2 ^ (n + 1) * y)) = y; rw [show 2 ^ (n + 1) * y = 2 * (2 ^ n * y) by rw [Nat.pow_succ]; ac_rfl, crcBit_two, ih]
theorem crcBits_add (m n : Nat) : ∀ (x : Nat), crcBits n (crcBits m x) = crcBits (m + n) x := by
  induction m with
  | zero => intro x; rw [Nat.zero_add]; rfl
  | succ m ih => intro x; rw [show m + 1 + n = (m + n) + 1 by omega]; exact ih (crcBit x)

/-- Bytes as one number, the first one lowest. -/
def lowN : List Nat → Nat
  | [] => 0
  | d :: ds => d ^^^ (256 * lowN ds)
theorem crcN_low (ds : List Nat) : ∀ (e : Nat), crcN e ds = crcBits (8 * ds.length) (e ^^^ lowN ds) := by
  induction ds with
  | nil => intro e; simp [crcN, lowN, crcBits]
  | cons d ds ih =>
    intro e
    show crcN (crcByte e d) ds = _
    rw [ih]
    unfold crcByte
    have h := crcBits_pow 8 (lowN ds)
    rw [show (2 : Nat) ^ 8 = 256 from rfl] at h
    rw [show crcBits 8 (e ^^^ d) ^^^ lowN ds = crcBits 8 (e ^^^ d) ^^^ crcBits 8 (256 * lowN ds) by rw [h], ← crcBits_xor, crcBits_add]
    rw [List.length_cons, show 8 * (ds.length + 1) = 8 + 8 * ds.length by omega]
    simp only [lowN, Nat.xor_assoc]
theorem lowN_lt : ∀ (n : Nat) (ds : List Nat), ds.length ≤ n → (∀ x ∈ ds, x < 256) → lowN ds < 2 ^ (8 * n)
  | n, [], _, _ => by simp only [lowN]; exact Nat.pow_pos (by omega)
  | 0, d :: ds, h, _ => by simp at h
  | n + 1, d :: ds, h, hb => by
    have ih := lowN_lt n ds (by simpa using h) (fun x hx => hb x (by simp [hx]))
    have hd := hb d (by simp)
    simp only [lowN]
    refine Nat.xor_lt_two_pow ?_ ?_
    · have : (2 : Nat) ^ 8 ≤ 2 ^ (8 * (n + 1)) := Nat.pow_le_pow_right (by omega) (by omega)
      omega
    · rw [show 8 * (n + 1) = 8 * n + 8 by omega, Nat.pow_add]
      omega
theorem lowN_zero : ∀ (ds : List Nat), (∀ x ∈ ds, x < 256) → lowN ds = 0 → ∀ x ∈ ds, x = 0
  | [], _, _, x, hx => by simp at hx
  | d :: ds, hb, h, x, hx => by
    have hd := hb d (by simp)
    simp only [lowN] at h
    have e := xor_z h
    have h0 : lowN ds = 0 := by omega
    rcases List.mem_cons.1 hx with rfl | hx
    · omega
    · exact lowN_zero ds (fun y hy => hb y (by simp [hy])) h0 x hx
/-- A burst of four bytes at most leaves a mark. -/
theorem burst {ds : List Nat} (hl : ds.length ≤ 4) (hb : ∀ x ∈ ds, x < 256) (h : crcN 0 ds = 0) : ∀ x ∈ ds, x = 0 := by
  rw [crcN_low, Nat.zero_xor] at h
  exact lowN_zero ds hb (crcBits_zero _ (by have := lowN_lt 4 ds hl hb; simpa using this) h)
theorem crcN_zeros (n : Nat) : ∀ (e : Nat), crcN e (List.replicate n 0) = crcBits (8 * n) e := by
  induction n with
  | zero => intro e; rfl
  | succ n ih =>
    intro e
    rw [List.replicate_succ]
    show crcN (crcByte e 0) _ = _
    rw [ih, crcByte, Nat.xor_zero, crcBits_add, show 8 * (n + 1) = 8 + 8 * n by omega]
theorem crcN_xor (p : List Nat) : ∀ (d : List Nat) (r e : Nat), p.length = d.length → crcN (r ^^^ e) (List.zipWith (· ^^^ ·) p d) = crcN r p ^^^ crcN e d := by
  induction p with
  | nil =>
    intro d r e h
    obtain rfl : d = [] := List.eq_nil_of_length_eq_zero h.symm
    rfl
  | cons b p ih =>
    intro d r e h
    cases d with
    | nil => simp at h
    | cons c d =>
      show crcN (crcByte (r ^^^ e) (b ^^^ c)) _ = crcN (crcByte r b) p ^^^ crcN (crcByte e c) d
      rw [← ih d _ _ (by simpa using h)]
      congr 1
      unfold crcByte
      rw [← crcBits_xor]
      congr 1
      ac_rfl
/-- What stands behind a change of bytes from place k on. -/
def mask (n k : Nat) (ds : List Nat) : List Nat := List.replicate k 0 ++ ds ++ List.replicate (n - k - ds.length) 0
theorem mask_len (n k : Nat) (ds : List Nat) (h : k + ds.length ≤ n) : (mask n k ds).length = n := by unfold mask; simp; omega
theorem apart_crc (p ds : List Nat) (k s : Nat) (hs : s < 4294967296) (hk : k + ds.length ≤ p.length) (hl : ds.length ≤ 4) (hp : ∀ x ∈ p, x < 256) (hb : ∀ x ∈ ds, x < 256) :
    crcMore s p = crcMore s (List.zipWith (· ^^^ ·) p (mask p.length k ds)) ↔ ∀ x ∈ ds, x = 0 := by
  have hx := crcN_xor p (mask p.length k ds) (4294967295 - s) 0 (mask_len _ _ _ hk).symm
  rw [Nat.xor_zero] at hx
  have hm : crcN 0 (mask p.length k ds) = crcBits (8 * (p.length - k - ds.length)) (crcN 0 ds) := by
    unfold mask
    rw [crcN_app, crcN_app, crcN_zeros, crcN_zeros, crcBits_of_zero]
  have h1 := crcN_lt p (r := 4294967295 - s) (by omega) hp
  have h2 : crcN 0 ds < 4294967296 := crcN_lt ds (by omega) hb
  have h3 : crcN 0 (mask p.length k ds) < 4294967296 := by rw [hm]; exact crcBits_lt _ h2
  have h4 : crcN (4294967295 - s) p ^^^ crcN 0 (mask p.length k ds) < 4294967296 := Nat.xor_lt_two_pow (n := 32) h1 h3
  unfold crcMore
  rw [hx]
  constructor
  · intro h
    have e : crcN (4294967295 - s) p = crcN (4294967295 - s) p ^^^ crcN 0 (mask p.length k ds) := by omega
    have e2 : crcN 0 (mask p.length k ds) = 0 := by
      have := congrArg (crcN (4294967295 - s) p ^^^ ·) e
      simp only [Nat.xor_self, ← Nat.xor_assoc, Nat.zero_xor] at this
      exact this.symm
    rw [hm] at e2
    exact burst hl hb (crcBits_zero _ h2 e2)
  · intro h
    have h0 : crcN 0 ds = 0 := by
      have : ds = List.replicate ds.length 0 := List.eq_replicate_iff.2 ⟨rfl, h⟩
      rw [this, crcN_zeros, crcBits_of_zero]
    rw [hm, h0, crcBits_of_zero, Nat.xor_zero]
end Go.Proofs.Ytejmklfhcealnaa.F
