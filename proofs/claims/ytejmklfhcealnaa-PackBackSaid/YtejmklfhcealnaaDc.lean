/- The check sum, walked. -/
import Derived.Test.YtejmklfhcealnaaB
import Derived.Test.YtejmklfhcealnaaDp
import Derived.Laws.BitsAllLaws
set_option linter.unusedVariables false
set_option linter.unusedSimpArgs false
namespace Go.Proofs.Ytejmklfhcealnaa.F
open Go.RowKit Go.Proofs.YtejmklfhcealnaaW.PrintWords

theorem crcMore_take (r : Nat) (p : List Nat) (k : Nat) (hk : k < p.length) : crcN r (p.take (k + 1)) = crcBits 8 (crcN r (p.take k) ^^^ p[k]) := by
  rw [List.take_succ_eq_append_getElem hk, crcN_app]; rfl
theorem mem_take_lt {p : List Nat} {b : Nat} (hp : ∀ x ∈ p, x < b) (k : Nat) : ∀ x ∈ p.take k, x < b := fun x hx => hp x (List.mem_of_mem_take hx)
theorem not32 (s : Nat) (hs : s < 4294967296) : Go.bits .xor .u32 IntKind.u32.max (s : Int) = ((4294967295 - s : Nat) : Int) := by
  have h := u32_xor_nat 4294967295 s (by omega) hs
  have e : IntKind.u32.max = ((4294967295 : Nat) : Int) := rfl
  rw [e, h]
  have hx : 4294967295 ^^^ s = 4294967295 - s := by
    apply Nat.eq_of_testBit_eq
    intro i
    have hc : (4294967295 - s).testBit i = (decide (i < 32) && !s.testBit i) := by rw [show 4294967295 - s = 2 ^ 32 - (s + 1) by omega]; exact Nat.testBit_two_pow_sub_succ (n := 32) hs i
    have ha : (4294967295 : Nat).testBit i = decide (i < 32) := by rw [show 4294967295 = 2 ^ 32 - 1 by omega]; exact Nat.testBit_two_pow_sub_one 32 i
    rw [Nat.testBit_xor, hc, ha]
    by_cases hi : i < 32
    · simp [hi]
    · have : s.testBit i = false := Nat.testBit_lt_two_pow (Nat.lt_of_lt_of_le hs (Nat.pow_le_pow_right (n := 2) (i := 32) (by omega) (by omega)))
      simp [hi, this]
  rw [hx]
theorem crc_mask (r : Nat) (hr : r < 4294967296) : Go.bits .xor .u32 ((r : Int) / 2) (Go.bits .and .u32 2197175160 ((-(Go.bits .and .u32 (r : Int) 1)) % 4294967296)) = ((crcBit r : Nat) : Int) := by
  rw [show (1 : Int) = ((1 : Nat) : Int) from rfl, u32_and_nat r 1 hr (by omega), nat_mask1, show ((r : Int) / 2) = ((r / 2 : Nat) : Int) by omega, show (2197175160 : Int) = ((2197175160 : Nat) : Int) from rfl]
  unfold crcBit
  rcases Nat.mod_two_eq_zero_or_one r with e | e
  · rw [e, if_neg (by omega), show (-((0 : Nat) : Int)) % 4294967296 = ((0 : Nat) : Int) from rfl, u32_and_nat _ 0 (by omega) (by omega), u32_xor_nat _ _ (by omega) (by simp)]; simp
  · rw [e, if_pos rfl, show (-((1 : Nat) : Int)) % 4294967296 = ((4294967295 : Nat) : Int) from rfl, u32_and_nat _ 4294967295 (by omega) (by omega), show (2197175160 &&& 4294967295 : Nat) = 2197175160 from rfl, u32_xor_nat _ _ (by omega) (by omega)]

theorem CrcMore_c (s : Nat) (A : Option Addr) (c : Nat) (p : List Nat) (w : World) (hs : s < 4294967296) (hr : RN .u8 w A p) (hp : ∀ x ∈ p, x < 256) :
    Calls Try.prog 48 #[.int .u32 s, .slice A p.length c] w fun e w' => e = .returned (.int .u32 (crcMore s p : Nat)) ∧ w' = w := by
  have hm := hr.max
  have hn := not32 s hs
  have hr0 : 4294967295 - s < 4294967296 := by omega
  have hfin : crcMore s p = 4294967295 - crcN (4294967295 - s) p := rfl
  obtain ⟨r0, h0⟩ : ∃ r0, 4294967295 - s = r0 := ⟨_, rfl⟩
  rw [h0] at hn hr0 hfin
  have HF := Lib.hid hfin
  clear h0 hfin
  go_enter Try.func48, Try.ntmps48
  go_wp2_with fail
  clear hn
  go_loop [5, 13] (fun vr vi => ∃ i : Nat, i ≤ p.length ∧ vi = .int .i64 i ∧ vr = .int .u32 (crcN r0 (p.take i) : Nat)) (fun _ vi => p.length - (intOf vi).toNat)
  case atStart => exact ⟨0, by omega, rfl, rfl⟩
  case round =>
    obtain ⟨i, hi, rfl, rfl⟩ := hrel
    have hlr := crcN_lt (p.take i) hr0 (mem_take_lt hp i)
    by_cases hlt : i < p.length
    · have hd : decide ((i : Int) < p.length) = true := by simp; omega
      obtain ⟨ad, e, hc⟩ := hr.at i hlt
      subst e
      have hnext := crcMore_take r0 p i hlt
      have hy : p[i] < 256 := hp _ (List.getElem_mem _)
      obtain ⟨y, hy0⟩ : ∃ y, p[i] = y := ⟨_, rfl⟩
      obtain ⟨r, hr1⟩ : ∃ r, crcN r0 (p.take i) = r := ⟨_, rfl⟩
      rw [hy0] at hc hnext hy
      rw [hr1] at hnext hlr ⊢
      have HN := Lib.hid hnext
      clear hy0 hr1 hnext
      have hx := u32_xor_nat r y hlr (by omega)
      have hxl : r ^^^ y < 4294967296 := Nat.xor_lt_two_pow (n := 32) hlr (by omega)
      obtain ⟨z, hz⟩ : ∃ z, r ^^^ y = z := ⟨_, rfl⟩
      rw [hz] at hx hxl
      have HZ := Lib.hid hz
      clear hz
      go_wp2_with fail
      clear hx
      go_loop [5, 21] (fun vr vk => ∃ k r : Nat, k ≤ 8 ∧ r < 4294967296 ∧ vk = .int .i64 k ∧ vr = .int .u32 r ∧ crcBits (8 - k) r = crcBits 8 z) (fun _ vk => 8 - (intOf vk).toNat)
      case atStart => exact ⟨0, z, by omega, hxl, rfl, rfl, rfl⟩
      case round =>
        obtain ⟨k, q, hk, hq, rfl, rfl, hg⟩ := hrel
        have HG := Lib.hid hg
        clear hg
        by_cases hlk : k < 8
        · have hd2 : decide ((k : Int) < 8) = true := by simp; omega
          go_wp2_with fail
          refine ⟨⟨k + 1, crcBit q, by omega, crcBit_lt hq, by go_num, ?_, ?_⟩, by simp [intOf]; omega⟩
          · rw [crc_mask q hq]
          · rw [← HG.out, show 8 - k = (8 - (k + 1)) + 1 by omega]; rfl
        · have hd2 : decide ((k : Int) < 8) = false := by simp; omega
          have h := HG.out
          rw [show 8 - k = 0 by omega] at h
          have H := Lib.hid h
          clear h
          go_wp2_with fail
          refine ⟨⟨i + 1, by omega, by go_num, ?_⟩, by simp [intOf]; omega⟩
          rw [HN.out, HZ.out, ← H.out]; rfl
    · have hd : decide ((i : Int) < p.length) = false := by simp; omega
      have hn := not32 _ hlr
      rw [List.take_of_length_le (by omega)] at hn hlr ⊢
      obtain ⟨r, hr1⟩ : ∃ r, crcN r0 p = r := ⟨_, rfl⟩
      rw [hr1] at hn hlr ⊢
      have HR := Lib.hid hr1
      clear hr1
      go_wp2_with fail
      go_ret
      exact ⟨by rw [HF.out, HR.out]; rfl, rfl⟩

theorem refCrcMore_c (s : Nat) (A : Option Addr) (c : Nat) (p : List Nat) (w : World) (hs : s < 4294967296) (hr : RN .u8 w A p) (hp : ∀ x ∈ p, x < 256) :
    Calls Try.prog 39 #[.int .u32 s, .slice A p.length c] w fun e w' => e = .returned (.int .u32 (crcMore s p : Nat)) ∧ w' = w := by
  have hm := hr.max
  have hn := not32 s hs
  have hr0 : 4294967295 - s < 4294967296 := by omega
  have hfin : crcMore s p = 4294967295 - crcN (4294967295 - s) p := rfl
  obtain ⟨r0, h0⟩ : ∃ r0, 4294967295 - s = r0 := ⟨_, rfl⟩
  rw [h0] at hn hr0 hfin
  have HF := Lib.hid hfin
  clear h0 hfin
  go_enter Try.func39, Try.ntmps39
  go_wp2_with fail
  clear hn
  go_loop [5, 6] (fun vr vi => ∃ i : Nat, i ≤ p.length ∧ vi = .int .i64 i ∧ vr = .int .u32 (crcN r0 (p.take i) : Nat)) (fun _ vi => p.length - (intOf vi).toNat)
  case atStart => exact ⟨0, by omega, rfl, rfl⟩
  case round =>
    obtain ⟨i, hi, rfl, rfl⟩ := hrel
    have hlr := crcN_lt (p.take i) hr0 (mem_take_lt hp i)
    by_cases hlt : i < p.length
    · have hd : decide ((i : Int) < p.length) = true := by simp; omega
      obtain ⟨ad, e, hc⟩ := hr.at i hlt
      subst e
      have hnext := crcMore_take r0 p i hlt
      have hy : p[i] < 256 := hp _ (List.getElem_mem _)
      obtain ⟨y, hy0⟩ : ∃ y, p[i] = y := ⟨_, rfl⟩
      obtain ⟨r, hr1⟩ : ∃ r, crcN r0 (p.take i) = r := ⟨_, rfl⟩
      rw [hy0] at hc hnext hy
      rw [hr1] at hnext hlr ⊢
      have HN := Lib.hid hnext
      clear hy0 hr1 hnext
      have hx := u32_xor_nat r y hlr (by omega)
      have hxl : r ^^^ y < 4294967296 := Nat.xor_lt_two_pow (n := 32) hlr (by omega)
      obtain ⟨z, hz⟩ : ∃ z, r ^^^ y = z := ⟨_, rfl⟩
      rw [hz] at hx hxl
      have HZ := Lib.hid hz
      clear hz
      go_wp2_with fail
      clear hx
      go_loop [5, 7] (fun vr vk => ∃ k r : Nat, k ≤ 8 ∧ r < 4294967296 ∧ vk = .int .i64 k ∧ vr = .int .u32 r ∧ crcBits (8 - k) r = crcBits 8 z) (fun _ vk => 8 - (intOf vk).toNat)
      case atStart => exact ⟨0, z, by omega, hxl, rfl, rfl, rfl⟩
      case round =>
        obtain ⟨k, q, hk, hq, rfl, rfl, hg⟩ := hrel
        have HG := Lib.hid hg
        clear hg
        by_cases hlk : k < 8
        · have hd2 : decide ((k : Int) < 8) = true := by simp; omega
          have hb := crcBit_lt hq
          have hstep : crcBits (8 - (k + 1)) (crcBit q) = crcBits 8 z := by rw [← HG.out, show 8 - k = (8 - (k + 1)) + 1 by omega]; rfl
          by_cases hodd : q % 2 = 1
          · have hb1 : ((q : Int) % 2 == 1) = true := beq_iff_eq.2 (by omega)
            have e1 : crcBit q = (q / 2) ^^^ 2197175160 := by unfold crcBit; rw [if_pos hodd]
            have hx2 := u32_xor_nat (q / 2) 2197175160 (by omega) (by omega)
            rw [← e1, show ((q / 2 : Nat) : Int) = (q : Int) / 2 by omega, show ((2197175160 : Nat) : Int) = 2197175160 from rfl] at hx2
            have HS := Lib.hid hstep
            clear hstep e1 hodd
            go_wp2_with fail
            exact ⟨⟨k + 1, crcBit q, by omega, hb, by go_num, rfl, HS.out⟩, by simp [intOf]; omega⟩
          · have hb1 : ((q : Int) % 2 == 1) = false := beq_eq_false_iff_ne.2 (by omega)
            have e1 : crcBit q = q / 2 := by unfold crcBit; rw [if_neg hodd]
            have HS := Lib.hid hstep
            have HE := Lib.hid e1
            clear hstep e1 hodd
            go_wp2_with fail
            exact ⟨⟨k + 1, crcBit q, by omega, hb, by go_num, by rw [HE.out]; rfl, HS.out⟩, by simp [intOf]; omega⟩
        · have hd2 : decide ((k : Int) < 8) = false := by simp; omega
          have h := HG.out
          rw [show 8 - k = 0 by omega] at h
          have H := Lib.hid h
          clear h
          go_wp2_with fail
          refine ⟨⟨i + 1, by omega, by go_num, ?_⟩, by simp [intOf]; omega⟩
          rw [HN.out, HZ.out, ← H.out]; rfl
    · have hd : decide ((i : Int) < p.length) = false := by simp; omega
      have hn := not32 _ hlr
      rw [List.take_of_length_le (by omega)] at hn hlr ⊢
      obtain ⟨r, hr1⟩ : ∃ r, crcN r0 p = r := ⟨_, rfl⟩
      rw [hr1] at hn hlr ⊢
      have HR := Lib.hid hr1
      clear hr1
      go_wp2_with fail
      go_ret
      exact ⟨by rw [HF.out, HR.out]; rfl, rfl⟩
theorem Crc_c (A : Option Addr) (c : Nat) (p : List Nat) (w : World) (hr : RN .u8 w A p) (hp : ∀ x ∈ p, x < 256) :
    Calls Try.prog 31 #[.slice A p.length c] w fun e w' => e = .returned (.int .u32 (crcMore 0 p : Nat)) ∧ w' = w := by
  go_enter Try.func31, Try.ntmps31
  go_wp2_with fail
  refine (CrcMore_c 0 A c p _ (by omega) hr hp).mono ?_
  rintro e w1 ⟨rfl, rfl⟩
  go_wp2_with fail
  go_ret
  exact ⟨rfl, rfl⟩
end Go.Proofs.Ytejmklfhcealnaa.F
