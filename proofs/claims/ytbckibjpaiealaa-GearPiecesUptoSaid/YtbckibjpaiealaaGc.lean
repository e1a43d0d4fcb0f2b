/- Which bounds there are, walked. -/
import Derived.Test.YtbckibjpaiealaaGa
set_option linter.unusedVariables false
set_option linter.unusedSimpArgs false
namespace Go.Proofs.Ytbckibjpaiealaa.F
open Go.RowKit Go.Proofs.YtbckibjpaiealaaW.PrintWords

theorem beq_comm' (a b : Int) : (a == b) = (b == a) := by
  by_cases h : a = b
  · rw [h]
  · rw [beq_eq_false_iff_ne.2 h, beq_eq_false_iff_ne.2 (fun e => h e.symm)]
def isPow (n : Int) : Bool := (List.range 9).any fun k => n == ((2 ^ k : Nat) : Int)
/-- Bounds that may be. -/
def cutOk (mn av mx : Int) : Bool := decide (1 ≤ mn) && decide (mn ≤ mx) && decide (mx ≤ 512) && isPow av
/-- What Check tells. -/
def checkV (mn av mx : Int) : Int := if cutOk mn av mx = true then 0 else 2
theorem isPow_range {n : Int} (h : isPow n = true) : 1 ≤ n ∧ n ≤ 256 := by
  unfold isPow at h
  simp only [List.any_eq_true, List.mem_range, beq_iff_eq] at h
  obtain ⟨k, hk, rfl⟩ := h
  have : ∀ k : Fin 9, 1 ≤ 2 ^ k.val ∧ 2 ^ k.val ≤ 256 := by decide
  have := this ⟨k, hk⟩
  simp only at this
  omega
theorem isPow_and (a : Nat) (h1 : 1 ≤ a) (h2 : a ≤ 256) : isPow (a : Int) = ((a &&& (a - 1)) == 0) := by
  have : ∀ a : Fin 257, 1 ≤ a.val → isPow (a.val : Int) = ((a.val &&& (a.val - 1)) == 0) := by decide +kernel
  exact this ⟨a, by omega⟩ h1
theorem i64_and_nat (a b : Nat) (ha : a < 9223372036854775808) (hb : b < 9223372036854775808) : Go.bits .and .i64 (a : Int) (b : Int) = ((a &&& b : Nat) : Int) := by
  have h1 : ∀ n : Nat, n < 9223372036854775808 → (BitVec.ofInt 64 (n : Int)).toNat = n := fun n hn => by
    rw [BitVec.toNat_ofInt]; omega
  have hx : a &&& b < 9223372036854775808 := Nat.and_lt_two_pow (n := 63) a hb
  show IntKind.i64.wrap ((BitVec.ofInt 64 (a : Int) &&& BitVec.ofInt 64 (b : Int)).toNat : Nat) = _
  rw [BitVec.toNat_and, h1 a ha, h1 b hb, IntKind.wrap_i64]
  omega
theorem Check_c1 (mn av mx : Int) (h1 : mn < 1) (w : World) :
    Calls Try.prog 12 #[.agg #[.int .i64 mn, .int .i64 av, .int .i64 mx]] w fun e w' => e = .returned (.int .i64 2) ∧ Below w.heap.size w w' := by
  have d0 : decide (mn < 1) = true := by simp; omega
  go_enter Try.func12, Try.ntmps12
  go_wp2
  go_ret
  exact ⟨rfl, (Below.refl _ _).alloc (Nat.le_refl _) _⟩
theorem Check_c2 (mn av mx : Int) (h1 : ¬ mn < 1) (h2 : mx < mn) (w : World) :
    Calls Try.prog 12 #[.agg #[.int .i64 mn, .int .i64 av, .int .i64 mx]] w fun e w' => e = .returned (.int .i64 2) ∧ Below w.heap.size w w' := by
  have d0 : decide (mn < 1) = false := by simp; omega
  have d1 : decide (mx < mn) = true := by simp; omega
  go_enter Try.func12, Try.ntmps12
  go_wp2
  go_ret
  exact ⟨rfl, (Below.refl _ _).alloc (Nat.le_refl _) _⟩
theorem Check_c3 (mn av mx : Int) (h1 : ¬ mn < 1) (h2 : ¬ mx < mn) (h3 : 512 < mx) (w : World) :
    Calls Try.prog 12 #[.agg #[.int .i64 mn, .int .i64 av, .int .i64 mx]] w fun e w' => e = .returned (.int .i64 2) ∧ Below w.heap.size w w' := by
  have d0 : decide (mn < 1) = false := by simp; omega
  have d1 : decide (mx < mn) = false := by simp; omega
  have d2 : decide (512 < mx) = true := by simp; omega
  go_enter Try.func12, Try.ntmps12
  go_wp2
  go_ret
  exact ⟨rfl, (Below.refl _ _).alloc (Nat.le_refl _) _⟩
theorem Check_c4 (mn av mx : Int) (h1 : ¬ mn < 1) (h2 : ¬ mx < mn) (h3 : ¬ 512 < mx) (h4 : av < 1) (w : World) :
    Calls Try.prog 12 #[.agg #[.int .i64 mn, .int .i64 av, .int .i64 mx]] w fun e w' => e = .returned (.int .i64 2) ∧ Below w.heap.size w w' := by
  have d0 : decide (mn < 1) = false := by simp; omega
  have d1 : decide (mx < mn) = false := by simp; omega
  have d2 : decide (512 < mx) = false := by simp; omega
  have d3 : decide (av < 1) = true := by simp; omega
  go_enter Try.func12, Try.ntmps12
  go_wp2
  go_ret
  exact ⟨rfl, (Below.refl _ _).alloc (Nat.le_refl _) _⟩
theorem Check_c5 (mn av mx : Int) (h1 : ¬ mn < 1) (h2 : ¬ mx < mn) (h3 : ¬ 512 < mx) (h4 : ¬ av < 1) (h5 : 256 < av) (w : World) :
    Calls Try.prog 12 #[.agg #[.int .i64 mn, .int .i64 av, .int .i64 mx]] w fun e w' => e = .returned (.int .i64 2) ∧ Below w.heap.size w w' := by
  have d0 : decide (mn < 1) = false := by simp; omega
  have d1 : decide (mx < mn) = false := by simp; omega
  have d2 : decide (512 < mx) = false := by simp; omega
  have d3 : decide (av < 1) = false := by simp; omega
  have d4 : decide (256 < av) = true := by simp; omega
  go_enter Try.func12, Try.ntmps12
  go_wp2
  go_ret
  exact ⟨rfl, (Below.refl _ _).alloc (Nat.le_refl _) _⟩
theorem Check_c6 (mn : Int) (a : Nat) (mx : Int) (h1 : ¬ mn < 1) (h2 : ¬ mx < mn) (h3 : ¬ 512 < mx) (h4 : 1 ≤ a) (h5 : a ≤ 256) (h6 : ((((a &&& (a - 1) : Nat) : Int)) != 0) = true) (w : World) :
    Calls Try.prog 12 #[.agg #[.int .i64 mn, .int .i64 a, .int .i64 mx]] w fun e w' => e = .returned (.int .i64 2) ∧ Below w.heap.size w w' := by
  have d0 : decide (mn < 1) = false := by simp; omega
  have d1 : decide (mx < mn) = false := by simp; omega
  have d2 : decide (512 < mx) = false := by simp; omega
  have d3 : decide ((a : Int) < 1) = false := by simp; omega
  have d4 : decide (256 < (a : Int)) = false := by simp; omega
  have hb : Go.bits .and .i64 (a : Int) ((a : Int) - 1) = ((a &&& (a - 1) : Nat) : Int) := by
    rw [show (a : Int) - 1 = ((a - 1 : Nat) : Int) by omega]; exact i64_and_nat _ _ (by omega) (by omega)
  rw [← hb] at h6
  clear hb
  go_enter Try.func12, Try.ntmps12
  go_wp2
  go_ret
  exact ⟨rfl, (Below.refl _ _).alloc (Nat.le_refl _) _⟩
theorem Check_c7 (mn : Int) (a : Nat) (mx : Int) (h1 : ¬ mn < 1) (h2 : ¬ mx < mn) (h3 : ¬ 512 < mx) (h4 : 1 ≤ a) (h5 : a ≤ 256) (h6 : ((((a &&& (a - 1) : Nat) : Int)) != 0) = false) (w : World) :
    Calls Try.prog 12 #[.agg #[.int .i64 mn, .int .i64 a, .int .i64 mx]] w fun e w' => e = .returned (.int .i64 0) ∧ Below w.heap.size w w' := by
  have d0 : decide (mn < 1) = false := by simp; omega
  have d1 : decide (mx < mn) = false := by simp; omega
  have d2 : decide (512 < mx) = false := by simp; omega
  have d3 : decide ((a : Int) < 1) = false := by simp; omega
  have d4 : decide (256 < (a : Int)) = false := by simp; omega
  have hb : Go.bits .and .i64 (a : Int) ((a : Int) - 1) = ((a &&& (a - 1) : Nat) : Int) := by
    rw [show (a : Int) - 1 = ((a - 1 : Nat) : Int) by omega]; exact i64_and_nat _ _ (by omega) (by omega)
  rw [← hb] at h6
  clear hb
  go_enter Try.func12, Try.ntmps12
  go_wp2
  go_ret
  exact ⟨rfl, (Below.refl _ _).alloc (Nat.le_refl _) _⟩
theorem Check_c (mn av mx : Int) (w : World) :
    Calls Try.prog 12 #[.agg #[.int .i64 mn, .int .i64 av, .int .i64 mx]] w fun e w' => e = .returned (.int .i64 (checkV mn av mx)) ∧ Below w.heap.size w w' := by
  have no : cutOk mn av mx = false → checkV mn av mx = 2 := fun h => by unfold checkV; rw [h]; rfl
  have yes : cutOk mn av mx = true → checkV mn av mx = 0 := fun h => by unfold checkV; rw [h]; rfl
  by_cases h1 : mn < 1
  · rw [no (by simp [cutOk]; omega)]; exact Check_c1 mn av mx h1 w
  by_cases h2 : mx < mn
  · rw [no (by simp [cutOk]; omega)]; exact Check_c2 mn av mx h1 h2 w
  by_cases h3 : 512 < mx
  · rw [no (by simp [cutOk]; omega)]; exact Check_c3 mn av mx h1 h2 h3 w
  have hp : ∀ b, isPow av = b → cutOk mn av mx = b := fun b h => by
    unfold cutOk
    rw [h, decide_eq_true (show 1 ≤ mn by omega), decide_eq_true (show mn ≤ mx by omega), decide_eq_true (show mx ≤ 512 by omega)]; rfl
  by_cases h4 : av < 1
  · rw [no (hp false (by cases h : isPow av; rfl; have := isPow_range h; omega))]; exact Check_c4 mn av mx h1 h2 h3 h4 w
  by_cases h5 : 256 < av
  · rw [no (hp false (by cases h : isPow av; rfl; have := isPow_range h; omega))]; exact Check_c5 mn av mx h1 h2 h3 h4 h5 w
  obtain ⟨a, rfl⟩ := Int.eq_ofNat_of_zero_le (show 0 ≤ av by omega)
  have hq := isPow_and a (by omega) (by omega)
  by_cases h6 : a &&& (a - 1) = 0
  · rw [h6] at hq
    rw [yes (hp true hq)]
    exact Check_c7 mn a mx h1 h2 h3 (by omega) (by omega) (by rw [h6]; rfl) w
  · have hq2 : ((a &&& (a - 1)) == 0) = false := beq_eq_false_iff_ne.2 h6
    rw [hq2] at hq
    rw [no (hp false hq)]
    exact Check_c6 mn a mx h1 h2 h3 (by omega) (by omega) (by rw [bne_iff_ne]; omega) w

theorem refCheck_c (mn av mx : Int) (w : World) :
    Calls Try.prog 13 #[.agg #[.int .i64 mn, .int .i64 av, .int .i64 mx]] w fun e w' => e = .returned (.int .i64 (checkV mn av mx)) ∧ Below w.heap.size w w' := by
  go_enter Try.func13, Try.ntmps13
  go_wp2
  go_loopw [3, 4] (fun vp vn W => ∃ k : Nat, k ≤ 9 ∧ vn = .int .i64 ((2 ^ k : Nat) : Int) ∧ vp = .bool ((List.range k).any fun j => av == ((2 ^ j : Nat) : Int)) ∧ W = w.alloc (.cells #[.int .i64 mn, .int .i64 av, .int .i64 mx] 24)) (fun _ vn _ => 512 - (intOf vn).toNat)
  case atStart => exact ⟨0, by omega, rfl, rfl, rfl⟩
  case round =>
    obtain ⟨k, hk, rfl, rfl, rfl⟩ := hrel
    have hp1 : 1 ≤ 2 ^ k := Nat.one_le_two_pow
    have hp2 : 2 ^ k ≤ 512 := Nat.pow_le_pow_right (n := 2) (i := k) (j := 9) (by omega) hk
    obtain ⟨n, hn⟩ : ∃ n, 2 ^ k = n := ⟨_, rfl⟩
    have hn9 : k < 9 → n ≤ 256 := fun h => by rw [← hn]; exact Nat.pow_le_pow_right (n := 2) (i := k) (j := 8) (by omega) (by omega)
    have hn10 : k = 9 → n = 512 := fun h => by rw [← hn, h]
    obtain ⟨b, hb⟩ : ∃ b, ((List.range k).any fun j => av == ((2 ^ j : Nat) : Int)) = b := ⟨_, rfl⟩
    rw [hn] at hp1 hp2 ⊢
    rw [hb]
    have HN := Lib.hid hn
    have HB := Lib.hid hb
    have HN9 := Lib.hid hn9
    have HN10 := Lib.hid hn10
    clear hn hb hn9 hn10
    by_cases hlt : k < 9
    · have h9 := HN9.out hlt
      have hd : decide ((n : Int) ≤ 256) = true := by simp; omega
      have hnext : 2 ^ (k + 1) = n * 2 := by rw [Nat.pow_succ, HN.out]
      have HX := Lib.hid hnext
      clear hnext
      cases b
      · go_wp2
        refine ⟨⟨k + 1, by omega, ?_, ?_, by first | rfl | trivial⟩, by simp [intOf]; omega⟩
        · rw [HX.out]; go_num
        · rw [List.range_succ, List.any_append, HB.out]; simp only [List.any_cons, List.any_nil, Bool.or_false, Bool.false_or, HN.out]; congr 1; exact beq_comm' _ _
      · go_wp2
        refine ⟨⟨k + 1, by omega, ?_, ?_, by first | rfl | trivial⟩, by simp [intOf]; omega⟩
        · rw [HX.out]; go_num
        · rw [List.range_succ, List.any_append, HB.out]; simp
    · obtain rfl : k = 9 := by omega
      have h9 := HN10.out rfl
      have hd : decide ((n : Int) ≤ 256) = false := by simp; omega
      have hpow : isPow av = b := HB.out
      have hf : Below w.heap.size w (w.alloc (.cells #[.int .i64 mn, .int .i64 av, .int .i64 mx] 24)) := (Below.refl _ _).alloc (Nat.le_refl _) _
      have hv : checkV mn av mx = if (1 ≤ mn ∧ mn ≤ mx ∧ mx ≤ 512) ∧ b = true then 0 else 2 := by
        unfold checkV cutOk
        rw [hpow]
        by_cases c1 : 1 ≤ mn <;> by_cases c2 : mn ≤ mx <;> by_cases c3 : mx ≤ 512 <;> simp [c1, c2, c3]
      have HV := Lib.hid hv
      clear hv hpow
      cases b
      · go_wp2
        go_ret
        exact ⟨by rw [HV.out, if_neg (fun h => Bool.noConfusion h.2)]; rfl, hf⟩
      · by_cases c1 : mn < 1
        · have d1 : decide (mn < 1) = true := by simp; omega
          go_wp2
          go_ret
          exact ⟨by rw [HV.out, if_neg (by omega)]; rfl, hf⟩
        have d1 : decide (mn < 1) = false := by simp; omega
        by_cases c2 : mx < mn
        · have d2 : decide (mx < mn) = true := by simp; omega
          go_wp2
          go_ret
          exact ⟨by rw [HV.out, if_neg (by omega)]; rfl, hf⟩
        have d2 : decide (mx < mn) = false := by simp; omega
        by_cases c3 : 512 < mx
        · have d3 : decide (512 < mx) = true := by simp; omega
          go_wp2
          go_ret
          exact ⟨by rw [HV.out, if_neg (by omega)]; rfl, hf⟩
        · have d3 : decide (512 < mx) = false := by simp; omega
          go_wp2
          go_ret
          have hv0 : checkV mn av mx = 0 := by rw [HV.out]; exact if_pos ⟨by omega, by first | rfl | trivial⟩
          exact ⟨by rw [hv0]; rfl, hf⟩
end Go.Proofs.Ytbckibjpaiealaa.F
