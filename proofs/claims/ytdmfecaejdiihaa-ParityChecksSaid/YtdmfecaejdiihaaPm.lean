/- The field's own functions, walked. -/
import Derived.Test.YtdmfecaejdiihaaB
import Derived.Test.YtdmfecaejdiihaaGm
set_option linter.unusedVariables false
set_option linter.unusedSimpArgs false
namespace Go.Proofs.Ytdmfecaejdiihaa.F
open Go.RowKit Go.Proofs.YtdmfecaejdiihaaW.PrintWords

theorem mask_step (o a b : Nat) (ho : o < 256) (ha : a < 256) (hb : b < 256) :
    Go.bits .xor .u8 (o : Int) (Go.bits .and .u8 (a : Int) ((-(Go.bits .and .u8 (b : Int) 1)) % 256)) = ((o ^^^ (if b % 2 = 1 then a else 0) : Nat) : Int) := by
  rw [show (1 : Int) = ((1 : Nat) : Int) from rfl, u8_and_nat b 1 hb (by omega), nat_mask1]
  rcases Nat.mod_two_eq_zero_or_one b with e | e
  · rw [e, show (-((0 : Nat) : Int)) % 256 = ((0 : Nat) : Int) from rfl, u8_and_nat a 0 ha (by omega), u8_xor_nat o _ ho (by simp)]; simp
  · rw [e, show (-((1 : Nat) : Int)) % 256 = ((255 : Nat) : Int) from rfl, u8_and_nat a 255 ha (by omega), nat_mask8, Nat.mod_eq_of_lt ha, u8_xor_nat o _ ho ha]; simp
theorem xt_step (a : Nat) (ha : a < 256) :
    Go.bits .xor .u8 (((a : Int) * 2) % 256) (Go.bits .and .u8 29 ((-((a : Int) / 128)) % 256)) = ((xt a : Nat) : Int) := by
  unfold xt
  by_cases h : a < 128
  · rw [if_pos h, show ((a : Int) * 2) % 256 = ((2 * a : Nat) : Int) by omega, show (-((a : Int) / 128)) % 256 = ((0 : Nat) : Int) by omega, show (29 : Int) = ((29 : Nat) : Int) from rfl, u8_and_nat 29 0 (by omega) (by omega), u8_xor_nat _ _ (by omega) (by simp)]; simp
  · rw [if_neg h, show ((a : Int) * 2) % 256 = ((2 * a - 256 : Nat) : Int) by omega, show (-((a : Int) / 128)) % 256 = ((255 : Nat) : Int) by omega, show (29 : Int) = ((29 : Nat) : Int) from rfl, u8_and_nat 29 255 (by omega) (by omega), u8_xor_nat _ _ (by omega) (by simp)]
    have hd : ∀ a : Fin 128, ((2 * (a.val + 128) - 256) ^^^ (29 &&& 255) == (2 * (a.val + 128)) ^^^ 285) = true := by decide +kernel
    have := eq_of_beq (hd ⟨a - 128, by omega⟩)
    simp only [show a - 128 + 128 = a by omega] at this
    rw [this]

theorem Mul_c (a b : Nat) (ha : a < 256) (hb : b < 256) (w : World) :
    Calls Try.prog 43 #[.int .u8 a, .int .u8 b] w fun e w' => e = .returned (.int .u8 (gm a b : Nat)) ∧ ∃ n, w' = w.drewN n := by
  go_enter Try.func43, Try.ntmps43
  go_wp2
  go_loop [0, 1, 5, 6] (fun va vb vo vi => ∃ i x y o : Nat, i ≤ 8 ∧ x < 256 ∧ y < 256 ∧ o < 256 ∧ va = .int .u8 x ∧ vb = .int .u8 y ∧ vo = .int .u8 o ∧ vi = .int .i64 i ∧ o ^^^ gmN (8 - i) x y = gm a b) (fun _ _ _ i => 8 - (intOf i).toNat)
  case atStart => exact ⟨0, a, b, 0, by omega, ha, hb, by omega, rfl, rfl, rfl, rfl, by simp [gm]⟩
  case round =>
    obtain ⟨i, x, y, o, hi, hx, hy, ho, rfl, rfl, rfl, rfl, hg⟩ := hrel
    have HG := Lib.hid hg
    clear hg
    by_cases hlt : i < 8
    · go_wp2
      refine ⟨⟨i + 1, xt x, y / 2, o ^^^ (if y % 2 = 1 then x else 0), by omega, xt_lt hx, by omega, xor_lt ho (by split <;> omega), ?_, ?_, ?_, by go_num, ?_⟩, by simp [intOf]; omega⟩
      · rw [xt_step x hx]
      · rfl
      · rw [mask_step o x y ho hx hy]
      · rw [← HG.out, show 8 - i = (8 - (i + 1)) + 1 by omega]
        show _ = o ^^^ ((if y % 2 = 1 then x else 0) ^^^ gmN (8 - (i + 1)) (xt x) (y / 2))
        rw [Nat.xor_assoc]
    · have hd : decide ((i : Int) < 8) = false := by simp; omega
      go_wp2
      go_ret
      have h := HG.out
      rw [show 8 - i = 0 by omega] at h
      simp [gmN] at h
      exact ⟨by rw [h]; rfl, 0, rfl⟩

theorem gpow_two {x : Nat} (hx : x < 256) (m : Nat) : gpow x m = gm (if m % 2 = 1 then x else 1) (gpow (gm x x) (m / 2)) := by
  rw [gpow_sq hx]
  rcases Nat.mod_two_eq_zero_or_one m with e | e
  · rw [show m = 2 * (m / 2) by omega]; simp [gm_one_left (gpow_lt hx _)]
  · rw [if_pos e, gm_comm hx (gpow_lt hx _)]; show _ = gpow x (2 * (m / 2) + 1); congr 1; omega
theorem Pow_c (a : Nat) (n : Int) (ha : a < 256) (w : World) :
    Calls Try.prog 45 #[.int .u8 a, .int .i64 n] w fun e w' => e = .returned (.int .u8 (gpow a n.toNat : Nat)) ∧ ∃ n, w' = w.drewN n := by
  have had := i64_and1
  go_enter Try.func45, Try.ntmps45
  go_wp2
  go_loopw [0, 1, 5] (fun va vn vo W => ∃ (x o : Nat) (m : Int), x < 256 ∧ o < 256 ∧ va = .int .u8 x ∧ vn = .int .i64 m ∧ vo = .int .u8 o ∧ gm o (gpow x m.toNat) = gpow a n.toNat ∧ ∃ n, W = w.drewN n) (fun _ vn _ _ => (intOf vn).toNat)
  case atStart => exact ⟨a, 1, n, ha, by omega, rfl, rfl, rfl, gm_one_left (gpow_lt ha _), 0, rfl⟩
  case round =>
    obtain ⟨x, o, m, hx, ho, rfl, rfl, rfl, hg, q, rfl⟩ := hrel
    have HG := Lib.hid hg
    clear hg
    by_cases hlt : 0 < m
    · have hd : decide (0 < m) = true := decide_eq_true hlt
      by_cases hodd : m % 2 = 1
      · have hb : (m % 2 == 1) = true := beq_iff_eq.2 hodd
        have HO := Lib.hid hodd
        clear hodd
        go_wp2_with fail
        refine (Mul_c o x ho hx _).mono ?_
        rintro e w1 ⟨rfl, n1, rfl⟩
        go_wp2_with fail
        refine (Mul_c x x hx hx _).mono ?_
        rintro e w1 ⟨rfl, n2, rfl⟩
        go_wp2_with fail
        refine ⟨⟨gm x x, gm o x, m / 2, gm_lt hx _, gm_lt ho _, rfl, rfl, rfl, ?_, q + n1 + n2, by simp only [World.drewN_drewN]⟩, by simp [intOf]; omega⟩
        have := HO.out
        rw [← HG.out, gpow_two hx m.toNat, if_pos (by omega), show (m / 2).toNat = m.toNat / 2 by omega, gm_assoc ho hx (gpow_lt (gm_lt hx _) _)]
      · have hb : (m % 2 == 1) = false := beq_eq_false_iff_ne.2 hodd
        have HO := Lib.hid hodd
        clear hodd
        go_wp2_with fail
        refine (Mul_c x x hx hx _).mono ?_
        rintro e w1 ⟨rfl, n2, rfl⟩
        go_wp2_with fail
        refine ⟨⟨gm x x, o, m / 2, gm_lt hx _, ho, rfl, rfl, rfl, ?_, q + n2, by simp only [World.drewN_drewN]⟩, by simp [intOf]; omega⟩
        have := HO.out
        rw [← HG.out, gpow_two hx m.toNat, if_neg (by omega), show (m / 2).toNat = m.toNat / 2 by omega, gm_one_left (gpow_lt (gm_lt hx _) _)]
    · have hd : decide (0 < m) = false := decide_eq_false hlt
      go_wp2
      go_ret
      have h := HG.out
      rw [show m.toNat = 0 by omega] at h
      have : o = gpow a n.toNat := by rw [← h]; exact (gm_one ho).symm
      exact ⟨by rw [this]; rfl, q, rfl⟩

theorem Inv_c (a : Nat) (ha : a < 256) (w : World) :
    Calls Try.prog 44 #[.int .u8 a] w fun e w' => e = .returned (.int .u8 (ginv a : Nat)) ∧ ∃ n, w' = w.drewN n := by
  by_cases h0 : a = 0
  · subst h0
    go_enter Try.func44, Try.ntmps44
    go_wp2
    go_ret
    exact ⟨rfl, 0, rfl⟩
  · have hb : ((a : Int) == 0) = false := beq_eq_false_iff_ne.2 (by omega)
    have H0 := Lib.hid h0
    clear h0
    go_enter Try.func44, Try.ntmps44
    go_wp2_with fail
    refine (Pow_c a 254 ha _).mono ?_
    rintro e w1 ⟨rfl, n1, rfl⟩
    go_wp2_with fail
    go_ret
    exact ⟨by rw [ginv, if_neg H0.out]; rfl, n1, rfl⟩

end Go.Proofs.Ytdmfecaejdiihaa.F
