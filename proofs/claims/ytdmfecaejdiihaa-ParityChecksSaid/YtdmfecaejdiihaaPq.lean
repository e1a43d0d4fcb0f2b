/- The document's weights, walked. -/
import Derived.Test.YtdmfecaejdiihaaPk
import Derived.Deep.QuietTactic
import Derived.BigQuiet
set_option linter.unusedVariables false
set_option linter.unusedSimpArgs false
namespace Go.Proofs.Ytdmfecaejdiihaa.F
open Go.RowKit Go.Proofs.YtdmfecaejdiihaaW.PrintWords

theorem quiet_same {P : Program} {f : FuncId} {args : Array Value} {w : World} {n : Nat} {v : Value}
    (h : Calls P f args (w.drewN n) fun e w' => e = .returned v ∧ w.drewN n = w') : Calls P f args (w.drewN n) fun e w'' => e = .returned v ∧ ∃ m, w'' = w.drewN m := h.mono fun _ _ ⟨he, hw⟩ => ⟨he, n, hw.symm⟩
theorem quiet_add {P : Program} {f : FuncId} {args : Array Value} {w : World} {a n : Nat} {v : Value}
    (h : Calls P f args (w.drewN (a + n)) fun e w' => e = .returned v ∧ w.drewN (a + n) = w') : Calls P f args (w.drewN (a + n)) fun e w'' => e = .returned v ∧ ∃ m, w'' = w.drewN (a + m) :=
  h.mono fun _ _ ⟨he, hm⟩ => ⟨he, n, hm.symm⟩
theorem pbut_drop (f : Nat → Nat) (but : Nat) (l : List Nat) (k o : Nat) (h : k < l.length) : pbut f but (l.drop k) k o = pbut f but (l.drop (k + 1)) (k + 1) (if k = but then o else gm o (f l[k])) := by
  rw [drop_cons h]
  rfl
set_option maxHeartbeats 8000000 in
theorem rWeights_c (A : Option Addr) (c : Nat) (l : List Nat) (a : Nat) (w : World) (hr : RN .u8 w A l) (hl : ∀ x ∈ l, x < 256) (ha : a < 256) (hle : l.length ≤ 256) :
    Calls Try.prog 31 #[.slice A l.length c, .int .u8 a] w fun e w' => ∃ v, e = .returned v ∧ OwnN .u8 5 w' w.heap.size v (weights l a) ∧ Below w.heap.size w w' := by
  have hm := hr.max
  have hE := empty_lit w
  have hbE : Below w.heap.size w (w.alloc (.cells #[] 5)) := (Below.refl _ _).alloc (Nat.le_refl _) _
  have HE := Lib.hid hE
  have HBE := Lib.hid hbE
  have HR := Lib.hid hr
  have HLB := Lib.hid hl
  clear hE hbE hr hl
  go_enter Try.func31, Try.ntmps31
  go_wp2_with fail
  go_loopw [5, 6] (fun vo vi W => ∃ i : Nat, i ≤ l.length ∧ vi = .int .i64 i ∧ OwnN .u8 5 W w.heap.size vo ((List.range i).map (weightAt l a)) ∧ Below w.heap.size w W) (fun _ vi _ => l.length - (intOf vi).toNat)
  case atStart => exact ⟨0, by omega, rfl, HE.out, HBE.out⟩
  case round =>
    obtain ⟨i, hi, rfl, ho, hB⟩ := hrel
    have HO := Lib.hid ho
    have HB := Lib.hid hB
    clear ho hB
    by_cases hlt : i < l.length
    · have hd : decide ((i : Int) < l.length) = true := decide_eq_true (by omega)
      obtain ⟨Ov, hOv⟩ : ∃ o, pbut (fun q => a ^^^ q) i l 0 1 = o := ⟨_, rfl⟩
      obtain ⟨Un, hUn⟩ : ∃ o, pbut (fun q => l.getD i 0 ^^^ q) i l 0 1 = o := ⟨_, rfl⟩
      have hli : l[i] < 256 := HLB.out _ (List.getElem_mem hlt)
      have hgi : l.getD i 0 = l[i] := by simp [List.getD_eq_getElem?_getD, hlt]
      obtain ⟨ad, e, hci⟩ := (HR.out.below HB.out).at i hlt
      subst e
      obtain ⟨pi, hpi⟩ : ∃ p, l[i] = p := ⟨_, rfl⟩
      rw [hpi] at hli hgi
      rw [hgi] at hUn
      have hwa : weightAt l a i = gm Ov (ginv Un) := by unfold weightAt; rw [hOv, hgi, hUn]
      have HWA := Lib.hid hwa
      have HOV := Lib.hid hOv
      have HUN := Lib.hid hUn
      have HPI := Lib.hid hpi
      have i0 : (0 : Int) ≤ (i : Int) := by omega
      have i1 : (i : Int) < (l.length : Int) := by omega
      clear hwa hOv hUn hpi hgi hci
      obtain ⟨wo, rfl⟩ : ∃ wo : World, wo = wr := ⟨_, rfl⟩
      go_wp2_with fail
      go_loopw [7, 8, 9] (fun vo vu vk W => ∃ k o u : Nat, k ≤ l.length ∧ vk = .int .i64 k ∧ vo = .int .u8 o ∧ vu = .int .u8 u ∧ o < 256 ∧ u < 256 ∧ pbut (fun q => a ^^^ q) i (l.drop k) k o = Ov ∧ pbut (fun q => pi ^^^ q) i (l.drop k) k u = Un ∧ ∃ n, W = wo.drewN n) (fun _ _ vk _ => l.length - (intOf vk).toNat)
      case atStart => exact ⟨0, 1, 1, by omega, rfl, rfl, rfl, by omega, by omega, HOV.out, HUN.out, 0, rfl⟩
      case round =>
        obtain ⟨k, o, u, hk, rfl, rfl, rfl, ho, hu, h1, h2, nw, hnw⟩ := hrel
        subst hnw
        by_cases hlk : k < l.length
        · have hdk : decide ((k : Int) < l.length) = true := decide_eq_true (by omega)
          obtain ⟨ad2, e, hck⟩ := (HR.out.below HB.out).at k hlk
          obtain rfl : ad = ad2 := Option.some.inj e
          obtain ⟨ad3, e3, hci⟩ := (HR.out.below HB.out).at i hlt
          obtain rfl : ad = ad3 := Option.some.inj e3
          rw [HPI.out] at hci
          have hlk2 : l[k] < 256 := HLB.out _ (List.getElem_mem hlk)
          have hs1 := pbut_drop (fun q => a ^^^ q) i l k o hlk
          have hs2 := pbut_drop (fun q => pi ^^^ q) i l k u hlk
          rw [h1] at hs1
          rw [h2] at hs2
          obtain ⟨pk, hpk⟩ : ∃ p, l[k] = p := ⟨_, rfl⟩
          rw [hpk] at hck hlk2 hs1 hs2
          have k0 : (0 : Int) ≤ (k : Int) := by omega
          have k1 : (k : Int) < (l.length : Int) := by omega
          clear hpk h1 h2
          by_cases hki : k = i
          · rw [if_pos hki] at hs1 hs2
            have dki : ((k : Int) != i) = false := by simp; omega
            have HS1 := Lib.hid hs1
            have HS2 := Lib.hid hs2
            have HKI := Lib.hid hki
            clear hs1 hs2 hki
            go_wp2_with fail
            exact ⟨⟨k + 1, o, u, by omega, by go_num, rfl, rfl, ho, hu, HS1.out.symm, HS2.out.symm, nw, rfl⟩, by simp [intOf]; omega⟩
          · rw [if_neg hki] at hs1 hs2
            have dki : ((k : Int) != i) = true := by simp; omega
            have x1 := u8_xor_nat a pk ha hlk2
            have x2 := u8_xor_nat pi pk hli hlk2
            have l1 : a ^^^ pk < 256 := Nat.xor_lt_two_pow (n := 8) ha hlk2
            have l2 : pi ^^^ pk < 256 := Nat.xor_lt_two_pow (n := 8) hli hlk2
            have hm1 := fun w => refMul_c o (a ^^^ pk) ho l1 w
            have hm2 := fun w => refMul_c u (pi ^^^ pk) hu l2 w
            have l3 : gm o (a ^^^ pk) < 256 := gm_lt ho _
            have l4 : gm u (pi ^^^ pk) < 256 := gm_lt hu _
            have HM1 := Lib.hid hm1
            have HM2 := Lib.hid hm2
            have HS1 := Lib.hid hs1
            have HS2 := Lib.hid hs2
            clear hs1 hs2 hm1 hm2
            go_wp2_with fail
            refine (HM1.out _).mono ?_
            rintro e w5 ⟨rfl, rfl⟩
            go_wp2_with fail
            go_quiet ((first | exact quiet_add (HM2.out _) | exact quiet_same (HM2.out _)))
            go_wp2_with fail
            exact ⟨⟨k + 1, _, _, by omega, by go_num, rfl, rfl, l3, l4, HS1.out.symm, HS2.out.symm, _, rfl⟩, by simp [intOf]; omega⟩
        · have hdk : decide ((k : Int) < l.length) = false := decide_eq_false (by omega)
          obtain rfl : k = l.length := by omega
          rw [List.drop_length] at h1 h2
          have e1 : o = Ov := h1
          have e2 : u = Un := h2
          have hiv := fun w => refInv_c u hu w
          have l5 : ginv u < 256 := ginv_lt hu
          have hmv := fun w => refMul_c o (ginv u) ho l5 w
          have hdr : Below w.heap.size wo (wo.drewN nw) := pw_below_drewN (Below.refl _ _) nw
          have ho2 : OwnN .u8 5 (wo.drewN nw) w.heap.size u5 ((List.range i).map (weightAt l a)) := HO.out.move (fun _ _ => rfl)
          have hbx : Below w.heap.size w (wo.drewN nw) := HB.out.trans hdr
          have hl2 : (((List.range i).map (weightAt l a)).length + 1) * 1 ≤ 140737488355328 := by simp; omega
          have hsn : (List.range (i + 1)).map (weightAt l a) = (List.range i).map (weightAt l a) ++ [gm o (ginv u)] := by rw [List.range_succ, List.map_append, e1, e2, ← HWA.out]; rfl
          have HIV := Lib.hid hiv
          have HMV := Lib.hid hmv
          have HO2 := Lib.hid ho2
          have HBX := Lib.hid hbx
          have HL2 := Lib.hid hl2
          have HSN := Lib.hid hsn
          have hbs := hbx.size
          clear h1 h2 e1 e2 hiv hmv ho2 hbx hl2 hsn hdr
          go_wp2_with fail
          refine (HIV.out _).mono ?_
          rintro e w5 ⟨rfl, rfl⟩
          go_wp2_with fail
          refine (HMV.out _).mono ?_
          rintro e w5 ⟨rfl, rfl⟩
          go_wp2_with (at_builtin; refine append_N w.heap.size rfl (.tmp 45) (.tmp 50) 29 5 .u8 1 rfl Try.underlying29 info_u8 (by decide) u5 ((List.range i).map (weightAt l a)) (gm o (ginv u)) rfl (wo.drewN nw).heap.size rfl rfl HO2.out HBX.out hbs HL2.out ?_; intro v6 w6 ho6 hb6)
          exact ⟨⟨i + 1, by omega, by go_num, by rw [HSN.out]; exact ho6, hb6⟩, by simp [intOf]; omega⟩
    · have hd : decide ((i : Int) < l.length) = false := decide_eq_false (by omega)
      obtain rfl : i = l.length := by omega
      go_wp2_with fail
      go_ret
      exact ⟨_, rfl, HO.out, HB.out⟩
end Go.Proofs.Ytdmfecaejdiihaa.F
