/- Plain mathematics of the field of 256: no program. -/
import Derived.Laws.BitsAllLaws
set_option linter.unusedVariables false
set_option linter.unusedSimpArgs false
namespace Go.Proofs.Ytdmfecaejdiihaa.F

def xt (a : Nat) : Nat := if a < 128 then 2 * a else (2 * a) ^^^ 285
def gmN : Nat → Nat → Nat → Nat
  | 0, _, _ => 0
  | n + 1, a, b => (if b % 2 = 1 then a else 0) ^^^ gmN n (xt a) (b / 2)
/-- The product. -/
def gm (a b : Nat) : Nat := gmN 8 a b

theorem xor_lt {a b : Nat} (ha : a < 256) (hb : b < 256) : a ^^^ b < 256 := Nat.xor_lt_two_pow (n := 8) ha hb
theorem xt_lt {a : Nat} (h : a < 256) : xt a < 256 := by
  have : ∀ a : Fin 256, xt a.val < 256 := by decide +kernel
  exact this ⟨a, h⟩
theorem gmN_lt {a : Nat} (h : a < 256) : ∀ n b, gmN n a b < 256 := by
  intro n
  induction n generalizing a with
  | zero => intro b; simp [gmN]
  | succ n ih => intro b; exact xor_lt (by split <;> omega) (ih (xt_lt h) _)
theorem gm_lt {a : Nat} (h : a < 256) (b : Nat) : gm a b < 256 := gmN_lt h 8 b

theorem xor4 (a b c d : Nat) : (a ^^^ b) ^^^ (c ^^^ d) = (a ^^^ c) ^^^ (b ^^^ d) := by
  rw [Nat.xor_assoc, Nat.xor_assoc]; congr 1; rw [← Nat.xor_assoc, ← Nat.xor_assoc, Nat.xor_comm b c]
theorem xt_xor {a b : Nat} (ha : a < 256) (hb : b < 256) : xt (a ^^^ b) = xt a ^^^ xt b := by
  have e2 : 2 * (a ^^^ b) = 2 * a ^^^ 2 * b := by
    have := Nat.shiftLeft_xor_distrib (a := a) (b := b) (i := 1)
    simpa [Nat.shiftLeft_eq, Nat.mul_comm] using this
  have e7 : (a ^^^ b) / 128 = a / 128 ^^^ b / 128 := by
    have := Nat.shiftRight_xor_distrib (a := a) (b := b) (i := 7)
    simpa [Nat.shiftRight_eq_div_pow] using this
  have hab := xor_lt ha hb
  unfold xt
  rw [e2]
  by_cases h1 : a < 128 <;> by_cases h2 : b < 128
  · rw [show a / 128 = 0 by omega, show b / 128 = 0 by omega] at e7
    have : a ^^^ b < 128 := by simp at e7; omega
    simp [h1, h2, this]
  · rw [show a / 128 = 0 by omega, show b / 128 = 1 by omega] at e7
    have : ¬ a ^^^ b < 128 := by simp at e7; omega
    simp [h1, h2, this, Nat.xor_assoc]
  · rw [show a / 128 = 1 by omega, show b / 128 = 0 by omega] at e7
    have : ¬ a ^^^ b < 128 := by simp at e7; omega
    simp [h1, h2, this, Nat.xor_assoc, Nat.xor_comm 285]
  · rw [show a / 128 = 1 by omega, show b / 128 = 1 by omega] at e7
    have : a ^^^ b < 128 := by simp at e7; omega
    simp only [h1, h2, this, if_true, if_false]
    rw [xor4]; simp
theorem gmN_xor_left (n : Nat) : ∀ {a a' : Nat} (b : Nat), a < 256 → a' < 256 → gmN n (a ^^^ a') b = gmN n a b ^^^ gmN n a' b := by
  induction n with
  | zero => intros; simp [gmN]
  | succ n ih =>
    intro a a' b ha ha'
    show (if b % 2 = 1 then a ^^^ a' else 0) ^^^ gmN n (xt (a ^^^ a')) (b / 2) = _
    rw [xt_xor ha ha', ih _ (xt_lt ha) (xt_lt ha')]
    show _ = ((if b % 2 = 1 then a else 0) ^^^ gmN n (xt a) (b / 2)) ^^^ ((if b % 2 = 1 then a' else 0) ^^^ gmN n (xt a') (b / 2))
    rw [xor4]
    by_cases h : b % 2 = 1 <;> simp [h]
theorem xor_mod2 (b b' : Nat) : (b ^^^ b') % 2 = (b % 2 + b' % 2) % 2 := by
  have h := Nat.xor_mod_two_pow (a := b) (b := b') (n := 1)
  simp only [Nat.pow_one] at h
  rw [h]
  rcases Nat.mod_two_eq_zero_or_one b with e | e <;> rcases Nat.mod_two_eq_zero_or_one b' with e' | e' <;> simp [e, e']
theorem gmN_xor_right (n : Nat) : ∀ (a b b' : Nat), gmN n a (b ^^^ b') = gmN n a b ^^^ gmN n a b' := by
  induction n with
  | zero => intros; simp [gmN]
  | succ n ih =>
    intro a b b'
    show (if (b ^^^ b') % 2 = 1 then a else 0) ^^^ gmN n (xt a) ((b ^^^ b') / 2) = ((if b % 2 = 1 then a else 0) ^^^ gmN n (xt a) (b / 2)) ^^^ ((if b' % 2 = 1 then a else 0) ^^^ gmN n (xt a) (b' / 2))
    rw [show (b ^^^ b') / 2 = b / 2 ^^^ b' / 2 from by simpa [Nat.shiftRight_eq_div_pow] using Nat.shiftRight_xor_distrib (a := b) (b := b') (i := 1), ih, xor_mod2, xor4]
    rcases Nat.mod_two_eq_zero_or_one b with e | e <;> rcases Nat.mod_two_eq_zero_or_one b' with e' | e' <;> simp [e, e']
theorem gm_xor_left {a a' : Nat} (b : Nat) (ha : a < 256) (ha' : a' < 256) : gm (a ^^^ a') b = gm a b ^^^ gm a' b := gmN_xor_left 8 b ha ha'
theorem gm_xor_right (a b b' : Nat) : gm a (b ^^^ b') = gm a b ^^^ gm a b' := gmN_xor_right 8 a b b'
/-- Each element is a sum of powers of two. -/
theorem by_basis (P : Nat → Prop) (h0 : P 0) (hx : ∀ a b, a < 256 → b < 256 → P a → P b → P (a ^^^ b)) (hp : ∀ i, i < 8 → P (2 ^ i)) {a : Nat} (ha : a < 256) : P a := by
  have hd : ∀ a : Fin 256, (a.val == (List.range 8).foldl (fun s i => s ^^^ (if a.val / 2 ^ i % 2 = 1 then 2 ^ i else 0)) 0) = true := by decide +kernel
  have e := eq_of_beq (hd ⟨a, ha⟩)
  change a = _ at e
  rw [e]
  have hf : ∀ l : List Nat, (∀ i ∈ l, i < 8) → ∀ s, s < 256 → P s → P (l.foldl (fun s i => s ^^^ (if a / 2 ^ i % 2 = 1 then 2 ^ i else 0)) s) ∧ l.foldl (fun s i => s ^^^ (if a / 2 ^ i % 2 = 1 then 2 ^ i else 0)) s < 256 := by
    intro l
    induction l with
    | nil => intro _ s hs hps; exact ⟨hps, hs⟩
    | cons i l ih =>
      intro hl s hs hps
      have hi : i < 8 := hl i (by simp)
      have h2 : 2 ^ i < 256 := Nat.pow_lt_pow_right (a := 2) (by omega) hi
      refine ih (fun j hj => hl j (by simp [hj])) _ (xor_lt hs (by split <;> omega)) (hx _ _ hs (by split <;> omega) hps ?_)
      split
      · exact hp i hi
      · exact h0
  exact (hf _ (by simp) 0 (by omega) h0).1
theorem gm_zero_left (b : Nat) : gm 0 b = 0 := by
  have h : ∀ n, ∀ b, gmN n 0 b = 0 := by
    intro n
    induction n with
    | zero => intros; rfl
    | succ n ih => intro b; show (if b % 2 = 1 then 0 else 0) ^^^ gmN n (xt 0) (b / 2) = 0; rw [show xt 0 = 0 from rfl, ih]; simp
  exact h 8 b
theorem gm_zero_right (a : Nat) : gm a 0 = 0 := by have := gm_xor_right a 0 0; simpa using this
theorem gm_comm {a b : Nat} (ha : a < 256) (hb : b < 256) : gm a b = gm b a := by
  have hbase : ∀ i : Fin 8, ∀ j : Fin 8, (gm (2 ^ i.val) (2 ^ j.val) == gm (2 ^ j.val) (2 ^ i.val)) = true := by decide +kernel
  refine by_basis (fun a => gm a b = gm b a) (by simp [gm_zero_left, gm_zero_right]) (fun x y hx hy h1 h2 => ?_) (fun i hi => ?_) ha
  · show gm (x ^^^ y) b = gm b (x ^^^ y)
    rw [gm_xor_left _ hx hy, gm_xor_right, h1, h2]
  refine by_basis (fun b => gm (2 ^ i) b = gm b (2 ^ i)) (by simp [gm_zero_left, gm_zero_right]) (fun x y hx hy h1 h2 => ?_) (fun j hj => ?_) hb
  · show gm (2 ^ i) (x ^^^ y) = gm (x ^^^ y) (2 ^ i)
    rw [gm_xor_left _ hx hy, gm_xor_right, h1, h2]
  exact eq_of_beq (hbase ⟨i, hi⟩ ⟨j, hj⟩)
theorem gm_assoc {a b c : Nat} (ha : a < 256) (hb : b < 256) (hc : c < 256) : gm a (gm b c) = gm (gm a b) c := by
  have hbase : ∀ i : Fin 8, ∀ j : Fin 8, ∀ k : Fin 8, (gm (2 ^ i.val) (gm (2 ^ j.val) (2 ^ k.val)) == gm (gm (2 ^ i.val) (2 ^ j.val)) (2 ^ k.val)) = true := by decide +kernel
  refine by_basis (fun a => gm a (gm b c) = gm (gm a b) c) (by simp [gm_zero_left]) (fun x y hx hy h1 h2 => ?_) (fun i hi => ?_) ha
  · show gm (x ^^^ y) (gm b c) = gm (gm (x ^^^ y) b) c
    rw [gm_xor_left _ hx hy, gm_xor_left _ hx hy, gm_xor_left _ (gm_lt hx b) (gm_lt hy b), h1, h2]
  have h2i : 2 ^ i < 256 := Nat.pow_lt_pow_right (a := 2) (by omega) hi
  refine by_basis (fun b => gm (2 ^ i) (gm b c) = gm (gm (2 ^ i) b) c) (by simp [gm_zero_left, gm_zero_right]) (fun x y hx hy h1 h2 => ?_) (fun j hj => ?_) hb
  · show gm (2 ^ i) (gm (x ^^^ y) c) = gm (gm (2 ^ i) (x ^^^ y)) c
    rw [gm_xor_left _ hx hy, gm_xor_right, gm_xor_right, gm_xor_left _ (gm_lt h2i x) (gm_lt h2i y), h1, h2]
  refine by_basis (fun c => gm (2 ^ i) (gm (2 ^ j) c) = gm (gm (2 ^ i) (2 ^ j)) c) (by simp [gm_zero_right]) (fun x y hx hy h1 h2 => ?_) (fun k hk => ?_) hc
  · show gm (2 ^ i) (gm (2 ^ j) (x ^^^ y)) = gm (gm (2 ^ i) (2 ^ j)) (x ^^^ y)
    rw [gm_xor_right, gm_xor_right, gm_xor_right, h1, h2]
  exact eq_of_beq (hbase ⟨i, hi⟩ ⟨j, hj⟩ ⟨k, hk⟩)
theorem gm_one {a : Nat} (ha : a < 256) : gm a 1 = a := by
  have h : ∀ a : Fin 256, (gm a.val 1 == a.val) = true := by decide +kernel
  exact eq_of_beq (h ⟨a, ha⟩)

/-- The n-th power. -/
def gpow (a : Nat) : Nat → Nat
  | 0 => 1
  | n + 1 => gm (gpow a n) a
theorem gpow_lt {a : Nat} (ha : a < 256) (n : Nat) : gpow a n < 256 := by
  cases n with
  | zero => simp [gpow]
  | succ n => exact gm_lt (by induction n with | zero => simp [gpow] | succ n ih => exact gm_lt ih a) a
theorem gm_one_left {a : Nat} (ha : a < 256) : gm 1 a = a := by rw [gm_comm (by omega) ha, gm_one ha]
theorem gpow_add {a : Nat} (ha : a < 256) (m n : Nat) : gpow a (m + n) = gm (gpow a m) (gpow a n) := by
  induction n with
  | zero => exact (gm_one (gpow_lt ha m)).symm
  | succ n ih => show gm (gpow a (m + n)) a = gm (gpow a m) (gm (gpow a n) a); rw [ih, gm_assoc (gpow_lt ha m) (gpow_lt ha n) ha]
theorem gpow_sq {a : Nat} (ha : a < 256) (n : Nat) : gpow (gm a a) n = gpow a (2 * n) := by
  induction n with
  | zero => rfl
  | succ n ih =>
    show gm (gpow (gm a a) n) (gm a a) = gpow a (2 * n + 2)
    rw [ih, gpow_add ha (2 * n) 2]
    show _ = gm _ (gm (gm 1 a) a)
    rw [gm_one_left ha]
def gfast (a : Nat) : Nat :=
  let b := gm a a; let c := gm b b; let d := gm c c; let e := gm d d; let f := gm e e; let g := gm f f; let h := gm g g
  gm (gm (gm (gm (gm (gm h g) f) e) d) c) b
theorem gpow254 {a : Nat} (ha : a < 256) : gpow a 254 = gfast a := by
  have h2 : ∀ n, gm (gpow a n) (gpow a n) = gpow a (n + n) := fun n => (gpow_add ha n n).symm
  have h1 : a = gpow a 1 := by show a = gm 1 a; rw [gm_one_left ha]
  unfold gfast
  simp only []
  have e1 : gm a a = gpow a 2 := by have := h2 1; rwa [← h1] at this
  simp only [e1, h2, ← gpow_add ha]
/-- What makes 1 of an element. -/
def ginv (a : Nat) : Nat := if a = 0 then 0 else gpow a 254
theorem ginv_lt {a : Nat} (ha : a < 256) : ginv a < 256 := by unfold ginv; split; omega; exact gpow_lt ha _
theorem gm_ginv {a : Nat} (ha : a < 256) (h0 : a ≠ 0) : gm a (ginv a) = 1 := by
  have h : ∀ a : Fin 256, (a.val == 0 || gm a.val (gfast a.val) == 1) = true := by decide +kernel
  have := h ⟨a, ha⟩
  simp [h0] at this
  rw [ginv, if_neg h0, gpow254 ha]; exact this
theorem gpow255 {a : Nat} (ha : a < 256) (h0 : a ≠ 0) : gpow a 255 = 1 := by
  have h := gm_ginv ha h0
  unfold ginv at h
  rw [if_neg h0, gm_comm ha (gpow_lt ha _)] at h
  exact h
theorem gm_eq_zero {a b : Nat} (ha : a < 256) (hb : b < 256) (h : gm a b = 0) (h0 : a ≠ 0) : b = 0 := by
  have h1 : gm (ginv a) (gm a b) = b := by
    rw [gm_assoc (ginv_lt ha) ha hb, gm_comm (ginv_lt ha) ha, gm_ginv ha h0, gm_one_left hb]
  rw [← h1, h, gm_zero_right]
end Go.Proofs.Ytdmfecaejdiihaa.F
