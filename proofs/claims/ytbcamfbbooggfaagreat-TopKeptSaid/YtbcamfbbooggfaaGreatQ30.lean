/- Part 30 of the proof: J7. -/
import Derived.Test.YtbcamfbbooggfaaGreatQ29
import Derived.Test.YtbcamfbbooggfaaGreatQ27
import Derived.Test.YtbcamfbbooggfaaGreatQ08
import Derived.Lib.SlBytesConst

/- The layers work as they should. -/
set_option linter.unusedVariables false
set_option linter.unusedSimpArgs false
namespace Go.Proofs.YtbcamfbbooggfaaGreat.F
open Go.RowKit Go.Proofs.YtbcamfbbooggfaaGreatW.PrintWords Go.Maps
attribute [local go_sem ↓] Go.wp_at_zero Go.wp_at_succ

theorem PK.typed {W : World} {b id wide : Nat} {L : List (List Nat)} (h : PK sumN W b id wide L) : ∃ cs x, W.heap[b]? = some (.cells cs 115 x) := by
  obtain ⟨A, c, A2, c2, F, _, h1, _⟩ := h
  exact ⟨_, _, h1⟩
theorem takeF_4 : takeF [(0, 4)] ((2 : Nat) : Int) = (((0 : Nat) : Int), 0, [(2, 2)]) := by decide
theorem chunks_a : Chunks [[97]] := ⟨by decide, by decide⟩
theorem sha_empty : (shaA [])[0]? = some (.int .u8 227) := by
  have := tabK_get .u8 32 (shaB []) 0 (by decide)
  rw [shaE] at this
  exact this
theorem str_a : strN [97] = ⟨#[97]⟩ := by kernel_rfl
theorem idx0 (w : World) (R : Array Value) (h : R[0]? = some (.int .u8 227)) : (Instr.index 61 (.agg R) (.int .i64 0)).run Tryz.prog w = .ok (.int .u8 227) w := by
  have h1 : (isAgg 5).run Tryz.prog w = .ok false w := by kernel_rfl
  have h2 : (sizeOf 5).run Tryz.prog w = .ok 1 w := by kernel_rfl
  simp [Instr.index, asIntOf, run_underlying Tryz.underlying61, part, h1, h2, h, Result.andThen]
theorem a_new (w : World) : RV 5 (w.alloc (.cells #[.int .u8 97] 5 (1, 2))) (some ⟨w.heap.size, 0, none⟩) 1 [.int .u8 97] := by
  have hg := heap_alloc_new w (.cells #[.int .u8 97] 5 (1, 2))
  refine ⟨by decide, fun _ => ⟨w.heap.size, 0, rfl, ⟨_, _, hg⟩, fun j u hu => ?_⟩⟩
  rw [cell_of_row _ _ _ _ _ _ hg]
  cases j with
  | zero => exact hu
  | succ j => simp at hu
set_option maxRecDepth 20000 in
set_option maxHeartbeats 4000000 in
theorem KL_c (w : World) : Calls Tryz.prog 9 #[] w fun e w' => e = .returned (.bool true) ∧ Below w.heap.size w w' := by
  go_enter Tryz.func9, Tryz.ntmps9
  go_wp2_with fail
  refine (NNew_c w).mono ?_
  rintro e w1 ⟨b, fm, sm, rfl, hbk, hbb, hb1⟩
  have hz1 := hb1.size
  have HBK := Lib.hid hbk
  have HB1 := Lib.hid hb1
  clear hbk hb1
  go_wp2_with fail
  refine (DNew_c 4 w1 (by decide) (by decide)).mono ?_
  rintro e w2 ⟨db, gs, mb, rfl, hd2, l1, l2, l3, hb2⟩
  have hz2 := hb2.size
  have HD2 := Lib.hid hd2
  have HB2 := Lib.hid hb2
  clear hd2 hb2
  go_wp2_with fail
  refine (eNew_c 0 4 w2 (by decide) (by decide)).mono ?_
  rintro e w3 ⟨er, rfl, l4, he3, hb3⟩
  have hz3 := hb3.size
  have HD3 := Lib.hid (HD2.out.below hb3)
  have HE3 := Lib.hid he3
  have HB3 := Lib.hid (HB2.out.trans (hb3.mono hz2))
  clear he3 hb3 HD2 HB2
  go_wp2_with fail
  refine (BNew_c db er w3).mono ?_
  rintro e w4 ⟨s, rb, rfl, hs4, l5, l6, hb4⟩
  have hz4 := hb4.size
  have HD4 := Lib.hid (HD3.out.below hb4)
  have HE4 := Lib.hid (HE3.out.below hb4)
  have hne : rb ≠ mb := by have := HD3.out.lt.2.2; omega
  have HS4 := Lib.hid hs4
  have HB4 := Lib.hid (HB3.out.trans (hb4.mono (by omega)))
  clear hs4 hb4 HD3 HE3 HB3
  go_wp2_with fail
  refine (New_c sumN 1 4 w4 (by decide) (by decide) (by decide)).mono ?_
  rintro e w5 ⟨pb, rfl, l7, hp5, hb5⟩
  have hz5 := hb5.size
  obtain ⟨W6, hW6⟩ : ∃ W6, w5.alloc (.cells #[.int .u8 97] 5 (1, 2)) = W6 := ⟨_, rfl⟩
  have hb6 : Below w5.heap.size w5 W6 := by rw [← hW6]; exact (Below.refl _ _).alloc (Nat.le_refl _) _
  have hr6 : RV 5 W6 (some ⟨w5.heap.size, 0, none⟩) 1 [.int .u8 97] := by rw [← hW6]; exact a_new w5
  have hr6' : RN .u8 W6 (some ⟨w5.heap.size, 0, none⟩) [97] := RV.rn (xs := [97]) hr6
  have hb46 := hb5.trans (hb6.mono hz5)
  have HADD := Lib.hid (Add_ok pb 1 4 [] (some ⟨w5.heap.size, 0, none⟩) 1 [97] W6 (hp5.below sumN hb6) (by decide) (by decide) (by decide) (by decide) hr6' (by decide) (by decide))
  have HD6 := Lib.hid (HD4.out.below hb46)
  have HE6 := Lib.hid (HE4.out.below hb46)
  have HS6 := Lib.hid (HS4.out.below hb46)
  have HP6 := Lib.hid (hp5.below sumN hb6)
  have HB6 := Lib.hid (HB4.out.trans (hb46.mono (by omega)))
  have HW6 := Lib.hid hW6
  have hz6 := hb6.size
  clear hp5 hb5 hb6 hr6 hr6' hb46 hW6 HD4 HE4 HS4 HB4
  have kc := fun (w : World) (C : Array Value) (n c : Nat) => Lib.run_convert_bytes_const (P := Tryz.prog) w 25 5 C n c Tryz.underlying25 Tryz.underlying5
  go_wp2_with (rw [HW6.out])
  refine HADD.out.mono ?_
  rintro e w7 ⟨rfl, hp7, hg7⟩
  obtain ⟨pcs, px, pty⟩ := HP6.out.typed
  have hd7 := HD6.out.off hg7 (fun k hk => by subst hk; exact HD6.out.apart pty (by decide) (by decide)) (fun k hk cs x e => by subst hk; exact cells_ne pty e (by decide) rfl)
  have he7 := HE6.out.off hg7 (fun e => by
    obtain ⟨ecs, ex, ety⟩ := HE6.out.typed
    exact cells_ne ety pty (by decide) e) (fun k hk cs e => by subst hk; exact cells_ne pty e (by decide) rfl)
  have hs7 := HS6.out.off hg7 (fun e => by
    obtain ⟨⟨scs, sx, sty⟩, _⟩ := HS6.out.typed
    exact cells_ne sty pty (by decide) e) (fun e => by
    obtain ⟨_, ⟨es, c, srb⟩⟩ := HS6.out.typed
    exact map_ne pty srb e.symm)
  have hz7 := hg7.size
  have hb7 : Below w1.heap.size w1 w7 := HB6.out.trans (hg7.below (by omega) (fun x hx => by omega))
  have HSL := Lib.hid (Seal_c (id := 1) (at0 := 0) (N := 2) (L := [[97]]) (wide := 4) w7 hd7 hs7 hne he7 (by omega) (hp7.pk) (by decide) chunks_a (by decide) (by simp [lk]) (by decide) takeF_4 (by decide) (by decide) (by decide))
  have HB7 := Lib.hid hb7
  have hlt := hd7.lt
  have hsl := hs7.lt
  clear hd7 he7 hs7 hb7 hp7 hg7 pty HADD HD6 HE6 HS6 HP6 HB6
  go_wp2_with fail
  refine HSL.out.mono ?_
  rintro e w8 ⟨rfl, ⟨dm8, hd8, hrd8⟩, hs8, he8, hg8⟩
  obtain ⟨W9, hW9⟩ : ∃ W9, w8.alloc (.cells #[.int .i64 1, .int .i64 0, .int .i64 2] 53) = W9 := ⟨_, rfl⟩
  have hb9 : Below w8.heap.size w8 W9 := by rw [← hW9]; exact (Below.refl _ _).alloc (Nat.le_refl _) _
  have hz8 := hg8.size
  have hb19 : Below w1.heap.size w1 W9 := (HB7.out.trans (hg8.below (by omega) (fun x hx => by
    rcases hx with (e | e | e) | e | e <;> omega))).trans (hb9.mono (by omega))
  have HCH := Lib.hid (BChunkL_c (L := [[97]]) (bn := 1) (at0 := 0) (N := 2) 0 W9 (hd8.below hb9) (hs8.below hb9) (lk_cons_same _ _ _) (by decide) chunks_a (by decide) (fun i hi => by rw [hrd8, if_pos (by omega)]; congr 1; omega) (by decide))
  have HW9 := Lib.hid hW9
  have HB19 := Lib.hid hb19
  have hz9 := hb19.size
  clear hd8 hrd8 hs8 he8 hg8 hb9 hW9 hb19 HSL HB7
  go_wp2_with (rw [HW9.out])
  refine HCH.out.mono ?_
  rintro e w10 ⟨A10, c10, rfl, hc10, hr10, hb10⟩
  have hr10' : RN .u8 w10 A10 [97] := hr10
  have hstr : (convert 25 9 (.slice A10 1 c10)).run Tryz.prog w10 = .ok (.string ⟨#[97]⟩) w10 := by
    have := RN.string (P := Tryz.prog) (c := c10) Tryz.underlying25 Tryz.underlying5 Tryz.underlying9 hr10'
    rw [str_a] at this
    exact this
  have hbk10 := HBK.out.below (HB19.out.trans (hb10.mono hz9))
  have HNA := Lib.hid (NApply_c b fm sm w10 hbk10)
  have HB10 := Lib.hid (HB1.out.trans ((HB19.out.trans (hb10.mono hz9)).mono hz1))
  have hz10 := HB10.out.size
  clear hr10 hr10' hb10 hbk10 HCH HBK HB19 HB1
  go_wp2_with fail
  refine HNA.out.mono ?_
  rintro e w11 ⟨rfl, hg11⟩
  have HSM := Lib.hid (digSum_c none 0 [] w11 (RN.nil _ _) (fun x hx => by cases hx) (by decide))
  have HB11 := Lib.hid (HB10.out.trans (hg11.below hz10 (fun x hx => by omega)))
  clear hg11 HNA HB10 hstr
  go_wp2_with fail
  refine HSM.out.mono ?_
  rintro e w12 ⟨rfl, hb12⟩
  have HB12 := Lib.hid (HB11.out.trans (hb12.mono HB11.out.size))
  have he0 := sha_empty
  have hix := idx0 w12 (shaA []) he0
  generalize shaA [] = R at he0 hix ⊢
  clear hb12 HSM HB11
  go_wp2_with fail
  go_ret
  exact ⟨rfl, HB12.out⟩
end Go.Proofs.YtbcamfbbooggfaaGreat.F
