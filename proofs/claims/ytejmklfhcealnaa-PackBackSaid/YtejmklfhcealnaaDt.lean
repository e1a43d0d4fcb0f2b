/- A word turned, and the words of a block, walked. -/
import Derived.Test.YtejmklfhcealnaaB
import Derived.Test.YtejmklfhcealnaaDs
import Derived.Laws.BitsAllLaws
set_option linter.unusedVariables false
set_option linter.unusedSimpArgs false
namespace Go.Proofs.Ytejmklfhcealnaa.F
open Go.RowKit Go.Proofs.YtejmklfhcealnaaW.PrintWords

theorem rot_count (n : Nat) (h0 : 0 < n) (h1 : n < 32) : Go.bits .and .u64 (IntKind.u64.wrap (-(n : Int))) 31 = ((32 - n : Nat) : Int) := by
  have h : ∀ n : Fin 32, 0 < n.val → Go.bits .and .u64 (IntKind.u64.wrap (-(n.val : Int))) 31 = ((32 - n.val : Nat) : Int) := by decide +kernel
  exact h ⟨n, h1⟩ h0
theorem or_rotr (x n m : Nat) (hx : x < 4294967296) (hm : m = 32 - n) : Go.bits .or .u32 ((x : Int) * 2 ^ m % 4294967296) ((x : Int) / 2 ^ n) = ((rotr x n : Nat) : Int) := by
  subst hm
  have e1 : (x : Int) * 2 ^ (32 - n) % 4294967296 = ((x * 2 ^ (32 - n) % 4294967296 : Nat) : Int) := by simp only [Int.natCast_emod, Int.natCast_mul, Int.natCast_pow]; rfl
  have e2 : (x : Int) / 2 ^ n = ((x / 2 ^ n : Nat) : Int) := by norm_cast
  rw [e1, e2, u32_or_nat _ _ (Nat.mod_lt _ (by omega)) (Nat.lt_of_le_of_lt (Nat.div_le_self _ _) hx)]
  rfl
theorem or_rotr' (x n m : Nat) (hx : x < 4294967296) (hm : m = 32 - n) : Go.bits .or .u32 ((x : Int) / 2 ^ n) ((x : Int) * 2 ^ m % 4294967296) = ((rotr x n : Nat) : Int) := by
  subst hm
  have e1 : (x : Int) * 2 ^ (32 - n) % 4294967296 = ((x * 2 ^ (32 - n) % 4294967296 : Nat) : Int) := by simp only [Int.natCast_emod, Int.natCast_mul, Int.natCast_pow]; rfl
  have e2 : (x : Int) / 2 ^ n = ((x / 2 ^ n : Nat) : Int) := by norm_cast
  rw [e1, e2, u32_or_nat _ _ (Nat.lt_of_le_of_lt (Nat.div_le_self _ _) hx) (Nat.mod_lt _ (by omega)), Nat.or_comm]
  rfl
theorem rot_c (x n : Nat) (w : World) (hx : x < 4294967296) (h0 : 0 < n) (h1 : n < 32) :
    Calls Try.prog 64 #[.int .u32 x, .int .i64 (-(n : Int))] w fun e w' => e = .returned (.int .u32 (rotr x n : Nat)) ∧ w' = w := by
  have hs := rot_count n h0 h1
  obtain ⟨m, hm⟩ : ∃ m, m = 32 - n := ⟨_, rfl⟩
  rw [← hm] at hs
  have hm1 : 0 < m := by omega
  have hm2 : m < 32 := by omega
  have hor := or_rotr x n m hx hm
  have hnm : 32 - m = n := by omega
  have HO := Lib.hid hor
  have HM := Lib.hid hnm
  clear hor hm hnm
  go_enter Try.func64, Try.ntmps64
  go_wp2_with fail
  go_ret
  exact ⟨by rw [HM.out, HO.out]; rfl, rfl⟩
theorem right_c (x n : Nat) (w : World) (hx : x < 4294967296) (h0 : 0 < n) (h1 : n < 32) :
    Calls Try.prog 42 #[.int .u32 x, .int .u32 n] w fun e w' => e = .returned (.int .u32 (rotr x n : Nat)) ∧ w' = w := by
  go_enter Try.func42, Try.ntmps42
  go_wp2_with fail
  go_ret
  exact ⟨by rw [or_rotr' x n _ hx rfl]; rfl, rfl⟩
theorem turn_c (x n : Nat) (w : World) (hx : x < 4294967296) (h0 : 0 < n) (h1 : n < 32) :
    Calls Try.prog 63 #[.int .u32 x, .int .i64 n] w fun e w' => e = .returned (.int .u32 (rotr x n : Nat)) ∧ w' = w := by
  go_enter Try.func63, Try.ntmps63
  go_wp2_with fail
  refine (rot_c x n _ hx h0 h1).mono ?_
  rintro e w1 ⟨rfl, rfl⟩
  go_wp2_with fail
  go_ret
  exact ⟨rfl, rfl⟩
end Go.Proofs.Ytejmklfhcealnaa.F
