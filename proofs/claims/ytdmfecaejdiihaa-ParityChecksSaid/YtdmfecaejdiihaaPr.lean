/- The reference's functions of the field, walked. -/
import Derived.Test.YtdmfecaejdiihaaPw
namespace Go.Proofs.Ytdmfecaejdiihaa.F
open Go.RowKit Go.Proofs.YtdmfecaejdiihaaW.PrintWords

def refP (a b : Nat) : Nat → Nat
  | 0 => 0
  | i + 1 => refP a b i ^^^ (if b / 2 ^ i % 2 = 1 then a * 2 ^ i else 0)
def rstep (i n : Nat) : Nat := if n / 2 ^ i % 2 = 1 then n ^^^ 285 * 2 ^ (i - 8) else n
def rl : Nat → Nat → Nat
  | 0, n => n
  | k + 1, n => rl k (rstep (k + 8) n)
theorem div_xor (a b i : Nat) : (a ^^^ b) / 2 ^ i = a / 2 ^ i ^^^ b / 2 ^ i := by
  have := Nat.shiftRight_xor_distrib (a := a) (b := b) (i := i)
  simpa [Nat.shiftRight_eq_div_pow] using this
theorem refP_xor (a b b' : Nat) : ∀ i, refP a (b ^^^ b') i = refP a b i ^^^ refP a b' i
  | 0 => by simp [refP]
  | i + 1 => by
    simp only [refP, refP_xor a b b' i, div_xor, xor_mod2]
    rw [xor4]
    congr 1
    rcases Nat.mod_two_eq_zero_or_one (b / 2 ^ i) with e | e <;> rcases Nat.mod_two_eq_zero_or_one (b' / 2 ^ i) with e' | e' <;> simp [e, e']
theorem rstep_xor (i n m : Nat) : rstep i (n ^^^ m) = rstep i n ^^^ rstep i m := by
  unfold rstep
  rw [div_xor, xor_mod2]
  rcases Nat.mod_two_eq_zero_or_one (n / 2 ^ i) with e | e <;> rcases Nat.mod_two_eq_zero_or_one (m / 2 ^ i) with e' | e' <;> simp [e, e', Nat.xor_assoc]
  · rw [Nat.xor_comm m]
  · rw [← Nat.xor_assoc (285 * _) m, Nat.xor_comm (285 * _) m, Nat.xor_assoc m]; simp
theorem rl_xor : ∀ (k n m : Nat), rl k (n ^^^ m) = rl k n ^^^ rl k m
  | 0, _, _ => rfl
  | k + 1, n, m => by simp only [rl, rstep_xor, rl_xor k]
theorem refP_lt {a : Nat} (ha : a < 256) (b : Nat) : ∀ i, i ≤ 8 → refP a b i < 65536
  | 0, _ => by simp [refP]
  | i + 1, hi => by
    refine Nat.xor_lt_two_pow (n := 16) (refP_lt ha b i (by omega)) ?_
    split
    · have : 2 ^ i ≤ 2 ^ 7 := Nat.pow_le_pow_right (by omega) (by omega)
      calc a * 2 ^ i ≤ a * 2 ^ 7 := Nat.mul_le_mul_left _ this
        _ < 2 ^ 16 := by omega
    · omega
theorem rstep_lt {n i : Nat} (hn : n < 65536) (hi : i ≤ 14) : rstep i n < 65536 := by
  unfold rstep
  split
  · refine Nat.xor_lt_two_pow (n := 16) hn ?_
    have : 2 ^ (i - 8) ≤ 2 ^ 6 := Nat.pow_le_pow_right (by omega) (by omega)
    calc 285 * 2 ^ (i - 8) ≤ 285 * 2 ^ 6 := Nat.mul_le_mul_left _ this
      _ < 2 ^ 16 := by omega
  · exact hn
theorem refm_eq {a b : Nat} (ha : a < 256) (hb : b < 256) : rl 7 (refP a b 8) % 256 = gm a b := by
  have hbase : ∀ a : Fin 256, ∀ j : Fin 8, (rl 7 (refP a.val (2 ^ j.val) 8) % 256 == gm a.val (2 ^ j.val)) = true := by decide +kernel
  have hz : ∀ i, refP a 0 i = 0 := by
    intro i
    induction i with
    | zero => rfl
    | succ i ih => simp [refP, ih]
  refine by_basis (fun b => rl 7 (refP a b 8) % 256 = gm a b) ?_ (fun x y hx hy h1 h2 => ?_) (fun j hj => eq_of_beq (hbase ⟨a, ha⟩ ⟨j, hj⟩)) hb
  · show rl 7 (refP a 0 8) % 256 = gm a 0
    rw [hz, gm_zero_right]; decide
  · show rl 7 (refP a (x ^^^ y) 8) % 256 = gm a (x ^^^ y)
    rw [refP_xor, rl_xor, gm_xor_right, ← h1, ← h2]
    exact Nat.xor_mod_two_pow (n := 8)

theorem i64_xor_nat (a b : Nat) (ha : a < 9223372036854775808) (hb : b < 9223372036854775808) : Go.bits .xor .i64 (a : Int) (b : Int) = ((a ^^^ b : Nat) : Int) := by
  have h1 : ∀ n : Nat, n < 9223372036854775808 → (BitVec.ofInt 64 (n : Int)).toNat = n := fun n hn => by
    rw [BitVec.toNat_ofInt]; omega
  have hx : a ^^^ b < 9223372036854775808 := Nat.xor_lt_two_pow (n := 63) ha hb
  show IntKind.i64.wrap ((BitVec.ofInt 64 (a : Int) ^^^ BitVec.ofInt 64 (b : Int)).toNat : Nat) = _
  rw [BitVec.toNat_xor, h1 a ha, h1 b hb, IntKind.wrap_i64]
  omega
theorem tbit (b i : Nat) : ((b : Int) / 2 ^ i).tmod 2 = ((b / 2 ^ i % 2 : Nat) : Int) := by
  have h : ((b : Int) / 2 ^ i) = ((b / 2 ^ i : Nat) : Int) := by norm_cast
  rw [h]; rfl
theorem shl_lt {a i : Nat} (ha : a < 512) (hi : i < 8) : a * 2 ^ i < 65536 := by
  have : 2 ^ i ≤ 2 ^ 7 := Nat.pow_le_pow_right (by omega) (by omega)
  calc a * 2 ^ i ≤ a * 2 ^ 7 := Nat.mul_le_mul_left _ this
    _ < 65536 := by omega
theorem shl_wrap {a i : Nat} (ha : a < 512) (hi : i < 8) : wrap64 ((a : Int) * 2 ^ i) = ((a * 2 ^ i : Nat) : Int) := by
  have h := shl_lt ha hi
  have e : (a : Int) * 2 ^ i = ((a * 2 ^ i : Nat) : Int) := by norm_cast
  rw [e]; unfold wrap64; omega

theorem refMul_c (a b : Nat) (ha : a < 256) (hb : b < 256) (w : World) :
    Calls Try.prog 32 #[.int .u8 a, .int .u8 b] w fun e w' => e = .returned (.int .u8 (gm a b : Nat)) ∧ w = w' := by
  have hfin := refm_eq ha hb
  have HF := Lib.hid hfin
  clear hfin
  go_enter Try.func32, Try.ntmps32
  go_wp2
  go_loop [5, 6] (fun vn vi => ∃ i : Nat, i ≤ 8 ∧ vi = .int .i64 i ∧ vn = .int .i64 (refP a b i : Nat)) (fun _ vi => 8 - (intOf vi).toNat)
  case atStart => exact ⟨0, by omega, rfl, rfl⟩
  case round =>
    obtain ⟨i, hi, rfl, rfl⟩ := hrel
    by_cases hlt : i < 8
    · have hd : decide ((i : Int) < 8) = true := by simp; omega
      go_wp2
      · have hb1 : ((b : Int) / 2 ^ i).tmod 2 = 1 := by have h : (((b : Int) / 2 ^ i).tmod 2 == 1) = true := by assumption
                                                        exact eq_of_beq h
        rw [tbit] at hb1
        refine ⟨⟨i + 1, by omega, by go_num, ?_⟩, by simp [intOf]; omega⟩
        rw [shl_wrap (by omega) hlt, i64_xor_nat _ _ (by have := refP_lt ha b i (by omega); omega) (by have := shl_lt (a := a) (by omega) hlt; omega)]
        simp only [refP, if_pos (show b / 2 ^ i % 2 = 1 by omega)]
      · have hb1 : ¬ ((b : Int) / 2 ^ i).tmod 2 = 1 := by have h : (((b : Int) / 2 ^ i).tmod 2 == 1) = false := by assumption
                                                          exact beq_eq_false_iff_ne.1 h
        rw [tbit] at hb1
        refine ⟨⟨i + 1, by omega, by go_num, ?_⟩, by simp [intOf]; omega⟩
        simp only [refP, if_neg (show ¬ b / 2 ^ i % 2 = 1 by omega), Nat.xor_zero]
    · have hd : decide ((i : Int) < 8) = false := by simp; omega
      obtain rfl : i = 8 := by omega
      clear hi hlt hd
      have hp := refP_lt ha b 8 (by omega)
      obtain ⟨m, hm⟩ : ∃ m, refP a b 8 = m := ⟨_, rfl⟩
      rw [hm] at hp ⊢
      have HM := Lib.hid hm
      clear hm
      go_wp2
      go_loop [5, 7] (fun vn vi => ∃ k n : Nat, k ≤ 7 ∧ n < 65536 ∧ vi = .int .i64 ((k : Int) + 7) ∧ vn = .int .i64 n ∧ rl k n = rl 7 m) (fun _ vi => (intOf vi).toNat)
      case atStart => exact ⟨7, m, by omega, hp, rfl, rfl, rfl⟩
      case round =>
        obtain ⟨k, n, hk, hn, rfl, rfl, hr⟩ := hrel
        have HR := Lib.hid hr
        clear hr
        by_cases h0 : 0 < k
        · obtain ⟨k, rfl⟩ : ∃ j, k = j + 1 := ⟨k - 1, by omega⟩
          have hd : decide ((8 : Int) ≤ ((k + 1 : Nat) : Int) + 7) = true := by simp; omega
          go_wp2
          · have hb1 : ((n : Int) / 2 ^ (k + 1 + 7)).tmod 2 = 1 := by have h : (((n : Int) / 2 ^ (k + 1 + 7)).tmod 2 == 1) = true := by assumption
                                                                      exact eq_of_beq h
            rw [tbit] at hb1
            have e : rstep (k + 8) n = n ^^^ 285 * 2 ^ k := by unfold rstep; rw [if_pos (by rw [show k + 8 = k + 1 + 7 by omega]; omega)]; rfl
            refine ⟨⟨k, rstep (k + 8) n, by omega, rstep_lt hn (by omega), ?_, ?_, HR.out⟩, by simp [intOf]; omega⟩
            · congr 1; omega
            · rw [e, show (285 : Int) = ((285 : Nat) : Int) from rfl, shl_wrap (by omega) (by omega), i64_xor_nat _ _ (by omega) (by have := shl_lt (a := 285) (i := k) (by omega) (by omega); omega)]
          · have hb1 : ¬ ((n : Int) / 2 ^ (k + 1 + 7)).tmod 2 = 1 := by have h : (((n : Int) / 2 ^ (k + 1 + 7)).tmod 2 == 1) = false := by assumption
                                                                        exact beq_eq_false_iff_ne.1 h
            rw [tbit] at hb1
            have e : rstep (k + 8) n = n := by unfold rstep; rw [if_neg (by rw [show k + 8 = k + 1 + 7 by omega]; omega)]
            refine ⟨⟨k, rstep (k + 8) n, by omega, rstep_lt hn (by omega), ?_, ?_, HR.out⟩, by simp [intOf]; omega⟩
            · congr 1; omega
            · rw [e]
        · obtain rfl : k = 0 := by omega
          go_wp2
          go_ret
          have h1 := HR.out
          have h2 := HF.out
          rw [HM.out, ← h1] at h2
          exact ⟨by rw [← h2]; show Ending.returned (Value.int .u8 ((n : Int) % 256)) = Ending.returned (Value.int .u8 ((n % 256 : Nat) : Int)); congr 2, rfl⟩

theorem ginv_unique {a x : Nat} (ha : a < 256) (hx : x < 256) (h : gm a x = 1) : x = ginv a := by
  have h0 : a ≠ 0 := fun e => by rw [e, gm_zero_left] at h; omega
  have h1 : gm (ginv a) (gm a x) = x := by
    rw [gm_assoc (ginv_lt ha) ha hx, gm_comm (ginv_lt ha) ha, gm_ginv ha h0, gm_one_left hx]
  rw [← h1, h, gm_one (ginv_lt ha)]
theorem refInv_c (a : Nat) (ha : a < 256) (w : World) :
    Calls Try.prog 38 #[.int .u8 a] w fun e w' => e = .returned (.int .u8 (ginv a : Nat)) ∧ w = w' := by
  go_enter Try.func38, Try.ntmps38
  go_wp2
  go_loop [3] (fun vi => ∃ i : Nat, i ≤ 256 ∧ vi = .int .i64 i ∧ ∀ j, j < i → gm a j ≠ 1) (fun vi => 256 - (intOf vi).toNat)
  case atStart => exact ⟨0, by omega, rfl, by simp⟩
  case round =>
    obtain ⟨i, hi, rfl, hno⟩ := hrel
    have HN := Lib.hid hno
    clear hno
    by_cases hlt : i < 256
    · have hd : decide ((i : Int) < 256) = true := by simp; omega
      have hm : (i : Int) % 256 = i := by omega
      go_wp2_with fail
      refine (refMul_c a i ha hlt _).mono ?_
      rintro e w1 ⟨rfl, rfl⟩
      by_cases h1 : gm a i = 1
      · have hb : (((gm a i : Nat) : Int) == 1) = true := by simp [h1]
        have H1 := Lib.hid h1
        clear h1
        go_wp2_with fail
        go_ret
        exact ⟨by rw [← ginv_unique ha hlt H1.out]; rfl, rfl⟩
      · have hb : (((gm a i : Nat) : Int) == 1) = false := beq_eq_false_iff_ne.2 (by omega)
        have H1 := Lib.hid h1
        clear h1
        go_wp2_with fail
        refine ⟨⟨i + 1, by omega, by go_num, fun j hj => ?_⟩, by simp [intOf]; omega⟩
        by_cases e : j = i
        · rw [e]; exact H1.out
        · exact HN.out j (by omega)
    · have hd : decide ((i : Int) < 256) = false := by simp; omega
      go_wp2
      go_ret
      have h0 : a = 0 := Classical.byContradiction fun h => HN.out (ginv a) (by have := ginv_lt ha; omega) (gm_ginv ha h)
      exact ⟨by rw [ginv, if_pos h0]; rfl, rfl⟩
end Go.Proofs.Ytdmfecaejdiihaa.F
