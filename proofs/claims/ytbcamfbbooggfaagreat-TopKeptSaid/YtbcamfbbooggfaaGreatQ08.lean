/- Part 8 of the proof: TDc, TDL. -/
import Derived.Test.YtbcamfbbooggfaaGreatQ03
import Derived.Test.YtbcamfbbooggfaaGreatQ07
import Derived.Laws.BitsAllLaws

section
/- The check sum, walked. -/
set_option linter.unusedVariables false
set_option linter.unusedSimpArgs false
namespace Go.Proofs.YtbcamfbbooggfaaGreat.F
open Go.RowKit Go.Proofs.YtbcamfbbooggfaaGreatW.PrintWords

theorem crcMore_take (r : Nat) (p : List Nat) (k : Nat) (hk : k < p.length) : crcN r (p.take (k + 1)) = crcBits 8 (crcN r (p.take k) ^^^ p[k]) := by
  rw [List.take_succ_eq_append_getElem hk, crcN_app]; rfl
theorem mem_take_lt {p : List Nat} {b : Nat} (hp : ∀ x ∈ p, x < b) (k : Nat) : ∀ x ∈ p.take k, x < b := fun x hx => hp x (List.mem_of_mem_take hx)
theorem not32 (s : Nat) (hs : s < 4294967296) : Go.bits .xor .u32 IntKind.u32.max (s : Int) = ((4294967295 - s : Nat) : Int) := by
  have h := u32_xor_nat 4294967295 s (by omega) hs
  have e : IntKind.u32.max = ((4294967295 : Nat) : Int) := rfl
  rw [e, h]
  have hx : 4294967295 ^^^ s = 4294967295 - s := by
    apply Nat.eq_of_testBit_eq
    intro i
    have hc : (4294967295 - s).testBit i = (decide (i < 32) && !s.testBit i) := by rw [show 4294967295 - s = 2 ^ 32 - (s + 1) by omega]; exact Nat.testBit_two_pow_sub_succ (n := 32) hs i
    have ha : (4294967295 : Nat).testBit i = decide (i < 32) := by rw [show 4294967295 = 2 ^ 32 - 1 by omega]; exact Nat.testBit_two_pow_sub_one 32 i
    rw [Nat.testBit_xor, hc, ha]
    by_cases hi : i < 32
    · simp [hi]
    · have : s.testBit i = false := Nat.testBit_lt_two_pow (Nat.lt_of_lt_of_le hs (Nat.pow_le_pow_right (n := 2) (i := 32) (by omega) (by omega)))
      simp [hi, this]
  rw [hx]
theorem crc_mask (r : Nat) (hr : r < 4294967296) : Go.bits .xor .u32 ((r : Int) / 2) (Go.bits .and .u32 2197175160 ((-(Go.bits .and .u32 (r : Int) 1)) % 4294967296)) = ((crcBit r : Nat) : Int) := by
  rw [show (1 : Int) = ((1 : Nat) : Int) from rfl, u32_and_nat r 1 hr (by omega), nat_mask1, show ((r : Int) / 2) = ((r / 2 : Nat) : Int) by omega, show (2197175160 : Int) = ((2197175160 : Nat) : Int) from rfl]
  unfold crcBit
  rcases Nat.mod_two_eq_zero_or_one r with e | e
  · rw [e, if_neg (by omega), show (-((0 : Nat) : Int)) % 4294967296 = ((0 : Nat) : Int) from rfl, u32_and_nat _ 0 (by omega) (by omega), u32_xor_nat _ _ (by omega) (by simp)]; simp
  · rw [e, if_pos rfl, show (-((1 : Nat) : Int)) % 4294967296 = ((4294967295 : Nat) : Int) from rfl, u32_and_nat _ 4294967295 (by omega) (by omega), show (2197175160 &&& 4294967295 : Nat) = 2197175160 from rfl, u32_xor_nat _ _ (by omega) (by omega)]

theorem CrcMore_c (s : Nat) (A : Option Addr) (c : Nat) (p : List Nat) (w : World) (hs : s < 4294967296) (hr : RN .u8 w A p) (hp : ∀ x ∈ p, x < 256) :
    Calls Tryz.prog 108 #[.int .u32 s, .slice A p.length c] w fun e w' => e = .returned (.int .u32 (crcMore s p : Nat)) ∧ w' = w := by
  have hm := hr.max
  have hn := not32 s hs
  have hr0 : 4294967295 - s < 4294967296 := by omega
  have hfin : crcMore s p = 4294967295 - crcN (4294967295 - s) p := rfl
  obtain ⟨r0, h0⟩ : ∃ r0, 4294967295 - s = r0 := ⟨_, rfl⟩
  rw [h0] at hn hr0 hfin
  have HF := Lib.hid hfin
  clear h0 hfin
  go_enter Tryz.func108, Tryz.ntmps108
  go_wp2_with fail
  clear hn
  go_loop [5, 13] (fun vr vi => ∃ i : Nat, i ≤ p.length ∧ vi = .int .i64 i ∧ vr = .int .u32 (crcN r0 (p.take i) : Nat)) (fun _ vi => p.length - (intOf vi).toNat)
  case atStart => exact ⟨0, by omega, rfl, rfl⟩
  case round =>
    obtain ⟨i, hi, rfl, rfl⟩ := hrel
    have hlr := crcN_lt (p.take i) hr0 (mem_take_lt hp i)
    by_cases hlt : i < p.length
    · have hd : decide ((i : Int) < p.length) = true := by simp; omega
      obtain ⟨ad, e, hc⟩ := hr.at i hlt
      subst e
      have hnext := crcMore_take r0 p i hlt
      have hy : p[i] < 256 := hp _ (List.getElem_mem _)
      obtain ⟨y, hy0⟩ : ∃ y, p[i] = y := ⟨_, rfl⟩
      obtain ⟨r, hr1⟩ : ∃ r, crcN r0 (p.take i) = r := ⟨_, rfl⟩
      rw [hy0] at hc hnext hy
      rw [hr1] at hnext hlr ⊢
      have HN := Lib.hid hnext
      clear hy0 hr1 hnext
      have hx := u32_xor_nat r y hlr (by omega)
      have hxl : r ^^^ y < 4294967296 := Nat.xor_lt_two_pow (n := 32) hlr (by omega)
      obtain ⟨z, hz⟩ : ∃ z, r ^^^ y = z := ⟨_, rfl⟩
      rw [hz] at hx hxl
      have HZ := Lib.hid hz
      clear hz
      go_wp2_with fail
      clear hx
      go_loop [5, 21] (fun vr vk => ∃ k r : Nat, k ≤ 8 ∧ r < 4294967296 ∧ vk = .int .i64 k ∧ vr = .int .u32 r ∧ crcBits (8 - k) r = crcBits 8 z) (fun _ vk => 8 - (intOf vk).toNat)
      case atStart => exact ⟨0, z, by omega, hxl, rfl, rfl, rfl⟩
      case round =>
        obtain ⟨k, q, hk, hq, rfl, rfl, hg⟩ := hrel
        have HG := Lib.hid hg
        clear hg
        by_cases hlk : k < 8
        · have hd2 : decide ((k : Int) < 8) = true := by simp; omega
          go_wp2_with fail
          refine ⟨⟨k + 1, crcBit q, by omega, crcBit_lt hq, by go_num, ?_, ?_⟩, by simp [intOf]; omega⟩
          · rw [crc_mask q hq]
          · rw [← HG.out, show 8 - k = (8 - (k + 1)) + 1 by omega]; rfl
        · have hd2 : decide ((k : Int) < 8) = false := by simp; omega
          have h := HG.out
          rw [show 8 - k = 0 by omega] at h
          have H := Lib.hid h
          clear h
          go_wp2_with fail
          refine ⟨⟨i + 1, by omega, by go_num, ?_⟩, by simp [intOf]; omega⟩
          rw [HN.out, HZ.out, ← H.out]; rfl
    · have hd : decide ((i : Int) < p.length) = false := by simp; omega
      have hn := not32 _ hlr
      rw [List.take_of_length_le (by omega)] at hn hlr ⊢
      obtain ⟨r, hr1⟩ : ∃ r, crcN r0 p = r := ⟨_, rfl⟩
      rw [hr1] at hn hlr ⊢
      have HR := Lib.hid hr1
      clear hr1
      go_wp2_with fail
      go_ret
      exact ⟨by rw [HF.out, HR.out]; rfl, rfl⟩

theorem Crc_c (A : Option Addr) (c : Nat) (p : List Nat) (w : World) (hr : RN .u8 w A p) (hp : ∀ x ∈ p, x < 256) :
    Calls Tryz.prog 62 #[.slice A p.length c] w fun e w' => e = .returned (.int .u32 (crcMore 0 p : Nat)) ∧ w' = w := by
  go_enter Tryz.func62, Tryz.ntmps62
  go_wp2_with fail
  refine (CrcMore_c 0 A c p _ (by omega) hr hp).mono ?_
  rintro e w1 ⟨rfl, rfl⟩
  go_wp2_with fail
  go_ret
  exact ⟨rfl, rfl⟩
end Go.Proofs.YtbcamfbbooggfaaGreat.F
end

section
/- A text's sum, by the program; what must be whatever is asked. -/
set_option linter.unusedVariables false
set_option linter.unusedSimpArgs false
set_option maxRecDepth 20000
namespace Go.Proofs.YtbcamfbbooggfaaGreat.F
open Go.RowKit Go.Proofs.YtbcamfbbooggfaaGreatW.PrintWords

theorem digSum_c (A : Option Addr) (c : Nat) (p : List Nat) (w : World) (hr : RN .u8 w A p) (hp : ∀ x ∈ p, x < 256) (hl : p.length ≤ 140737488355328) :
    Calls Tryz.prog 15 #[.slice A p.length c] w fun e w' => e = .returned (.agg (shaA p)) ∧ Below w.heap.size w w' := by
  have hz := zero32
  have i3 : (Tryz.prog.info? 61).map (·.size) = some (shaA p).size := by unfold shaA; rw [tabK_size]; exact info32
  have o3 : (shaA p).all (·.oneCell') = true := tabK_one _ _ _
  have s3 : zeros32.size = (shaA p).size := by unfold shaA zeros32; rw [tabK_size, tabK_size]
  obtain ⟨R, hR⟩ : ∃ R, shaA p = R := ⟨_, rfl⟩
  rw [hR] at i3 o3 s3
  have hB0 : Below w.heap.size w (w.alloc (.cells zeros32 61)) := (Below.refl _ _).alloc (Nat.le_refl _) _
  have hg : (w.alloc (.cells zeros32 61)).heap[w.heap.size]? = some (.cells zeros32 61 (0, 0)) := heap_alloc_new _ _
  obtain ⟨W0, hW0⟩ : ∃ W0, w.alloc (.cells zeros32 61) = W0 := ⟨_, rfl⟩
  have hs0 : W0.heap.size = w.heap.size + 1 := by rw [← hW0]; simp
  rw [hW0] at hB0 hg
  have HI := Lib.hid i3
  have HO := Lib.hid o3
  have HS := Lib.hid s3
  have HR := Lib.hid hR
  have HW0 := Lib.hid hW0
  have HG := Lib.hid hg
  have HRN := Lib.hid (hr.below hB0)
  clear i3 o3 s3 hR hW0 hg hr
  go_enter Tryz.func15, Tryz.ntmps15
  go_wp2_with fail
  rw [HW0.out]
  refine (NewH_c _).mono ?_
  rintro e w1 ⟨B, rfl, hB, hBl, hh, hb1⟩
  have HH := Lib.hid hh
  have HB1 := Lib.hid hb1
  have HR1 := Lib.hid (HRN.out.below hb1)
  clear hh hb1
  go_wp2_with fail
  have hwr := Write_c B beginS none 0 [] 0 A c p w1 beginS_ok HH.out (RN.nil _ _) (Nat.le_refl _) (fun _ => rfl) (by simp) HR1.out hp (by omega) (by simp; omega)
  simp only [List.nil_append, Nat.zero_add] at hwr
  refine hwr.mono ?_
  rintro e w2 ⟨rfl, C, c2, h2, hr2, hc2, hn2, hC2, hb2⟩
  have H2 := Lib.hid h2
  have HR2 := Lib.hid hr2
  have HN2 := Lib.hid hn2
  have HB2 := Lib.hid hb2
  clear h2 hr2 hn2 hC2 hb2 hwr
  go_wp2_with fail
  refine (SumH_c B p C c2 w2 H2.out HR2.out hc2 HN2.out hp (by omega)).mono ?_
  rintro e w3 ⟨rfl, hb3⟩
  rw [HR.out]
  have hb03 : Below w.heap.size w w3 := by
    have h1 : Below W0.heap.size W0 w1 := HB1.out
    have h2 : Below w.heap.size w1 w2 := (HB2.out.mono (by have := h1.size; omega)).below (by omega)
    exact ((hB0.trans (h1.mono hB0.size)).trans h2).trans (hb3.mono (by have := h1.size; have := h2.size; omega))
  have hg3 : w3.heap[w.heap.size]? = some (.cells zeros32 61 (0, 0)) := by
    have h1 : Below W0.heap.size W0 w1 := HB1.out
    have e1 := h1.size
    have e2 := HB2.out.size
    rw [hb3.block _ (by omega), HB2.out.block _ (by omega) (by omega), h1.block _ (by omega)]
    exact HG.out
  have HB03 := Lib.hid hb03
  have HG3 := Lib.hid hg3
  clear hb03 hg3 hb3
  go_wp2_with (refine wpList_store_row rfl 61 (.tmp 2) (.tmp 9) rfl w.heap.size rfl R zeros32 rfl 61 HG3.out HI.out HS.out HO.out ?_)
  (try simp only [Exit.inBlock, Exit.then])
  exact bodyPost_ret (v := .agg R) (results_cell_row rfl _ _ w.heap.size 61 R (0, 0) _ rfl (setRow_heap _ _ _ _ _ _ HG3.out) Tryz.underlying61 rfl HI.out) rfl ⟨by rw [HR.out], below_setRow HB03.out (Nat.le_refl _) _⟩
end Go.Proofs.YtbcamfbbooggfaaGreat.F
end
