/- Forks of a hash, walked. -/
import Derived.Test.YtdmkfdealedgoaaHh
import Derived.Test.YtdmkfdealedgoaaDv
import Derived.Test.YtdmkfdealedgoaaAp
import Derived.Test.YtdmkfdealedgoaaDy
import Derived.Test.YtdmkfdealedgoaaDl3
set_option linter.unusedVariables false
set_option linter.unusedSimpArgs false
namespace Go.Proofs.Ytdmkfdealedgoaa.F
open Go.RowKit Go.Proofs.YtdmkfdealedgoaaW.PrintWords

theorem empty_lit (w : World) : OwnN .u8 5 (w.alloc (.cells #[] 5)) w.heap.size (.slice (some ⟨w.heap.size, 0, none⟩) 0 0) [] := by
  have := own_lit_of (enc := encN .u8) w w.heap.size 5 [] (by simp) (by simp)
  simp only [List.map_nil, List.length_nil, encs] at this
  exact this
theorem app_lt {p q : List Nat} (hp : ∀ x ∈ p, x < 256) (hq : ∀ x ∈ q, x < 256) : ∀ x ∈ p ++ q, x < 256 := fun x hx => by
  rcases List.mem_append.1 hx with h | h
  · exact hp x h
  · exact hq x h
theorem zeros_lit : zeros32 = #[.int .u8 0, .int .u8 0, .int .u8 0, .int .u8 0, .int .u8 0, .int .u8 0, .int .u8 0, .int .u8 0, .int .u8 0, .int .u8 0, .int .u8 0, .int .u8 0, .int .u8 0, .int .u8 0, .int .u8 0, .int .u8 0, .int .u8 0, .int .u8 0, .int .u8 0, .int .u8 0, .int .u8 0, .int .u8 0, .int .u8 0, .int .u8 0, .int .u8 0, .int .u8 0, .int .u8 0, .int .u8 0, .int .u8 0, .int .u8 0, .int .u8 0, .int .u8 0] := rfl
theorem eql_zero (W : World) : Sem.run Try.prog (binOp BinOp.eql 24 (.agg zeros32) (.agg #[.int .u8 0, .int .u8 0, .int .u8 0, .int .u8 0, .int .u8 0, .int .u8 0, .int .u8 0, .int .u8 0, .int .u8 0, .int .u8 0, .int .u8 0, .int .u8 0, .int .u8 0, .int .u8 0, .int .u8 0, .int .u8 0, .int .u8 0, .int .u8 0, .int .u8 0, .int .u8 0, .int .u8 0, .int .u8 0, .int .u8 0, .int .u8 0, .int .u8 0, .int .u8 0, .int .u8 0, .int .u8 0, .int .u8 0, .int .u8 0, .int .u8 0, .int .u8 0])) W = Result.ok (.bool true) W := by
  rw [← zeros_lit]
  exact eql_sum W (fun _ => 0) (fun _ => by omega)
set_option maxHeartbeats 4000000 in
theorem DigestForks_walk (A1 A2 A3 : Option Addr) (c1 c2 c3 : Nat) (p q r : List Nat) (w : World) (hr1 : RN .u8 w A1 p) (hr2 : RN .u8 w A2 q) (hr3 : RN .u8 w A3 r) (hp : ∀ x ∈ p, x < 256) (hq : ∀ x ∈ q, x < 256) (hr : ∀ x ∈ r, x < 256)
    (hl1 : p.length ≤ 1048576) (hl2 : q.length ≤ 1048576) (hl3 : r.length ≤ 1048576) :
    Calls Try.prog 8 #[.slice A1 p.length c1, .slice A2 q.length c2, .slice A3 r.length c3] w fun e w' => e = .returned (.bool true) ∧ Below w.heap.size w w' := by
  have hpq := app_lt hp hq
  have hpr := app_lt hp hr
  have HSF := Lib.hid (fun B W hh => Sum_h B (p ++ q) W hh hpq (by rw [List.length_append]; omega))
  have HSH := Lib.hid (fun B W hh => Sum_h B (p ++ r) W hh hpr (by rw [List.length_append]; omega))
  have HRF := Lib.hid (fun A c W hh => refSum_c A c (p ++ q) W hh hpq (by rw [List.length_append]; omega))
  have HRH := Lib.hid (fun A c W hh => refSum_c A c (p ++ r) W hh hpr (by rw [List.length_append]; omega))
  have heq1 := fun w => eql_sum w (shaB (p ++ q)) (shaB_lt _)
  have heq2 := fun w => eql_sum w (shaB (p ++ r)) (shaB_lt _)
  have heq0 := eql_zero
  rw [show tabK .u8 32 (shaB (p ++ q)) = shaA (p ++ q) from rfl] at heq1
  rw [show tabK .u8 32 (shaB (p ++ r)) = shaA (p ++ r) from rfl] at heq2
  have hbd : ∀ W : World, (Instr.build 24 #[]).run Try.prog W = .ok (.agg zeros32) W := fun _ => by kernel_rfl
  have HQ := Lib.hid hq
  have HR := Lib.hid hr
  have HP := Lib.hid hp
  obtain ⟨R1, hR1⟩ : ∃ R1, shaA (p ++ q) = R1 := ⟨_, rfl⟩
  obtain ⟨R2, hR2⟩ : ∃ R2, shaA (p ++ r) = R2 := ⟨_, rfl⟩
  rw [hR1] at heq1 HSF HRF
  rw [hR2] at heq2 HSH HRH
  have hk1 : (([] : List Nat).length + p.length) * 1 ≤ 140737488355328 := by simp; omega
  have hk2 : (p.length + q.length) * 1 ≤ 140737488355328 := by omega
  have hk3 : (p.length + r.length) * 1 ≤ 140737488355328 := by omega
  have K1 := Lib.hid hk1
  have K2 := Lib.hid hk2
  have K3 := Lib.hid hk3
  clear hR1 hR2 hpq hpr hp hq hr hk1 hk2 hk3
  go_enter Try.func8, Try.ntmps8
  go_wp2_with fail
  refine (New_h _).mono ?_
  rintro e w1 ⟨B, rfl, hB, hh1, hb1⟩
  have H1 := Lib.hid hh1
  have HB1 := Lib.hid hb1
  have R11 := Lib.hid (hr1.below hb1)
  have R21 := Lib.hid (hr2.below hb1)
  have R31 := Lib.hid (hr3.below hb1)
  clear hh1 hb1 hr1 hr2 hr3
  go_wp2_with fail
  refine (Write_h B [] A1 c1 p w1 H1.out (by simp) R11.out HP.out (by simp; omega)).mono ?_
  rintro e w2 ⟨rfl, hh2, hb2⟩
  rw [List.nil_append] at hh2
  have H2 := Lib.hid hh2
  have HB2 := Lib.hid hb2
  have R12 := Lib.hid (H1.out.bytes R11.out hb2)
  have R22 := Lib.hid (H1.out.bytes R21.out hb2)
  have R32 := Lib.hid (H1.out.bytes R31.out hb2)
  clear hh2 hb2
  go_wp2_with fail
  refine (Fork_h B p w2 H2.out (by omega)).mono ?_
  rintro e w3 ⟨B2, rfl, hB2, hh3, hb3⟩
  have hbl : B < w2.heap.size := H2.out.lt
  have H3 := Lib.hid (H2.out.below hb3)
  have F3 := Lib.hid hh3
  have HB3 := Lib.hid hb3
  have R13 := Lib.hid (R12.out.below hb3)
  have R23 := Lib.hid (R22.out.below hb3)
  have R33 := Lib.hid (R32.out.below hb3)
  have hne : B ≠ B2 := by omega
  have HNE := Lib.hid hne
  clear hh3 hb3 hne
  go_wp2_with fail
  refine (Write_h B2 p A2 c2 q w3 F3.out HP.out R23.out HQ.out (by omega)).mono ?_
  rintro e w4 ⟨rfl, hh4, hb4⟩
  have F4 := Lib.hid hh4
  have H4 := Lib.hid (H3.out.apart F3.out HNE.out hb4)
  have HB4 := Lib.hid hb4
  have R14 := Lib.hid (F3.out.bytes R13.out hb4)
  have R24 := Lib.hid (F3.out.bytes R23.out hb4)
  have R34 := Lib.hid (F3.out.bytes R33.out hb4)
  clear hh4 hb4
  go_wp2_with fail
  refine (Write_h B p A3 c3 r w4 H4.out HP.out R34.out HR.out (by omega)).mono ?_
  rintro e w5 ⟨rfl, hh5, hb5⟩
  have H5 := Lib.hid hh5
  have F5 := Lib.hid (F4.out.apart H4.out (Ne.symm HNE.out) hb5)
  have R15 := Lib.hid (H4.out.bytes R14.out hb5)
  have R25 := Lib.hid (H4.out.bytes R24.out hb5)
  have R35 := Lib.hid (H4.out.bytes R34.out hb5)
  have hbw : Below w.heap.size w w5 := by
    have s1 := HB1.out.size
    have s2 := HB2.out.size
    have s3 := HB3.out.size
    have s4 := HB4.out.size
    exact (((HB1.out.trans ((HB2.out.mono s1).below hB)).trans (HB3.out.mono (by omega))).trans ((HB4.out.mono (by omega : w.heap.size ≤ w3.heap.size)).below (by omega))).trans ((hb5.mono (by omega : w.heap.size ≤ w4.heap.size)).below hB)
  have HBW := Lib.hid hbw
  clear hh5 hb5 hbw HB1 HB2 HB3 HB4 H1 H2 H3 H4 F3 F4 R11 R12 R13 R14 R21 R22 R23 R24 R31 R32 R33 R34
  go_wp2_with fail
  refine (live_c _).mono ?_
  rintro e w6 ⟨rfl, hb6⟩
  have H6 := Lib.hid (H5.out.below hb6)
  have F6 := Lib.hid (F5.out.below hb6)
  have R16 := Lib.hid (R15.out.below hb6)
  have R26 := Lib.hid (R25.out.below hb6)
  have R36 := Lib.hid (R35.out.below hb6)
  have HB6 := Lib.hid (HBW.out.trans (hb6.mono HBW.out.size))
  clear hb6 HBW H5 F5 R15 R25 R35
  go_wp2_with fail
  refine (HSF.out B2 _ F6.out).mono ?_
  rintro e w7 ⟨rfl, hb7⟩
  have H7 := Lib.hid (H6.out.below hb7)
  have R17 := Lib.hid (R16.out.below hb7)
  have R27 := Lib.hid (R26.out.below hb7)
  have R37 := Lib.hid (R36.out.below hb7)
  have HB7 := Lib.hid (HB6.out.trans (hb7.mono HB6.out.size))
  clear hb7 HB6 H6 F6 R16 R26 R36
  have hO := empty_lit w7
  have hbA : Below w7.heap.size w7 (w7.alloc (.cells #[] 5)) := (Below.refl _ _).alloc (Nat.le_refl _) _
  have hs1 : w7.heap.size ≤ (w7.alloc (.cells #[] 5)).heap.size := by simp
  have HO := Lib.hid hO
  have HBA := Lib.hid hbA
  have R17a := Lib.hid (R17.out.below hbA)
  clear hO hbA
  go_wp2_with (first
    | (at_builtin; refine append_NNw w7.heap.size rfl (.tmp 31) (.tmp 32) 22 5 .u8 1 rfl Try.underlying22 info_u8 (by decide) (.slice (some ⟨w7.heap.size, 0, none⟩) 0 0) [] p A1 c1 rfl rfl HO.out R17a.out hs1 K1.out ?_; intro v2 x2 ho2 hg2 hat2; rw [List.nil_append] at ho2; have hb2 := below_grown HO.out hs1 hg2; have HO2 := Lib.hid ho2; have hb12 := HBA.out.trans hb2; have HB12 := Lib.hid hb12; have R28 := Lib.hid (R27.out.below hb12); have hs2 : w7.heap.size ≤ x2.heap.size := hb12.size; clear hat2 ho2 hg2 hb2 hb12)
    | (at_builtin; refine append_NNw w7.heap.size rfl (.tmp 33) (.tmp 34) 22 5 .u8 1 rfl Try.underlying22 info_u8 (by decide) v2 p q A2 c2 rfl rfl HO2.out R28.out hs2 K2.out ?_; intro v3 x3 ho3 hg3 hat3))
  have hb23 := below_grown HO2.out hs2 hg3
  have hb13 := HB12.out.trans hb23
  obtain ⟨A9, c9, rfl, hc9, _, _, hr9⟩ := ho3.form
  have R9 := Lib.hid hr9
  have H8 := Lib.hid (H7.out.below hb13)
  have R18 := Lib.hid (R17.out.below hb13)
  have R38 := Lib.hid (R37.out.below hb13)
  have HB8 := Lib.hid (HB7.out.trans (hb13.mono HB7.out.size))
  clear ho3 hg3 hat3 hb23 hb13 HB12 HB7 H7 R17 R27 R28 R37 HO HO2 HBA R17a hr9 hs1 hs2
  refine (HRF.out A9 c9 _ R9.out).mono ?_
  rintro e y1 ⟨rfl, hb9⟩
  have H9 := Lib.hid (H8.out.below hb9)
  have R19 := Lib.hid (R18.out.below hb9)
  have R39 := Lib.hid (R38.out.below hb9)
  have HB9 := Lib.hid (HB8.out.trans (hb9.mono HB8.out.size))
  clear hb9 HB8 H8 R18 R38 R9
  go_wp2_with fail
  refine (HSH.out B _ H9.out).mono ?_
  rintro e y2 ⟨rfl, hb10⟩
  have R110 := Lib.hid (R19.out.below hb10)
  have R310 := Lib.hid (R39.out.below hb10)
  have HB10 := Lib.hid (HB9.out.trans (hb10.mono HB9.out.size))
  clear hb10 HB9 H9 R19 R39
  have hO := empty_lit y2
  have hbA : Below y2.heap.size y2 (y2.alloc (.cells #[] 5)) := (Below.refl _ _).alloc (Nat.le_refl _) _
  have hs1 : y2.heap.size ≤ (y2.alloc (.cells #[] 5)).heap.size := by simp
  have HO := Lib.hid hO
  have HBA := Lib.hid hbA
  have R17a := Lib.hid (R110.out.below hbA)
  clear hO hbA
  go_wp2_with (first
    | (at_builtin; refine append_NNw y2.heap.size rfl (.tmp 42) (.tmp 43) 22 5 .u8 1 rfl Try.underlying22 info_u8 (by decide) (.slice (some ⟨y2.heap.size, 0, none⟩) 0 0) [] p A1 c1 rfl rfl HO.out R17a.out hs1 K1.out ?_; intro v5 x5 ho2 hg2 hat2; rw [List.nil_append] at ho2; have hb2 := below_grown HO.out hs1 hg2; have HO2 := Lib.hid ho2; have hb12 := HBA.out.trans hb2; have HB12 := Lib.hid hb12; have R38 := Lib.hid (R310.out.below hb12); have R18 := Lib.hid (R110.out.below hb12); have hs2 : y2.heap.size ≤ x5.heap.size := hb12.size; clear hat2 ho2 hg2 hb2 hb12)
    | (at_builtin; refine append_NNw y2.heap.size rfl (.tmp 44) (.tmp 45) 22 5 .u8 1 rfl Try.underlying22 info_u8 (by decide) v5 p r A3 c3 rfl rfl HO2.out R38.out hs2 K3.out ?_; intro v6 x6 ho3 hg3 hat3))
  have hb23 := below_grown HO2.out hs2 hg3
  have hb13 := HB12.out.trans hb23
  obtain ⟨A8, c8, rfl, hc8, _, _, hr8⟩ := ho3.form
  have R8 := Lib.hid hr8
  have HB11 := Lib.hid (HB10.out.trans (hb13.mono HB10.out.size))
  clear ho3 hg3 hat3 hb23 hb13 HB12 HB10 R38 R18 R110 R310 HO HO2 HBA R17a hr8 hs1 hs2
  refine (HRH.out A8 c8 _ R8.out).mono ?_
  rintro e y3 ⟨rfl, hb12⟩
  have HB12 := Lib.hid (HB11.out.trans (hb12.mono HB11.out.size))
  clear hb12 HB11 R8
  go_wp2_with fail
  refine (Write_nil _ _).mono ?_
  rintro e y4 ⟨rfl, hb13⟩
  have HB13 := Lib.hid (HB12.out.trans (hb13.mono HB12.out.size))
  clear hb13 HB12
  go_wp2_with fail
  refine (Len_nil _).mono ?_
  rintro e y5 ⟨rfl, rfl⟩
  go_wp2_with fail
  refine (Fork_nil _).mono ?_
  rintro e y5 ⟨rfl, rfl⟩
  go_wp2_with fail
  refine (Sum_nil _).mono ?_
  rintro e y6 ⟨rfl, hb14⟩
  have HB14 := Lib.hid (HB13.out.trans (hb14.mono HB13.out.size))
  clear hb14 HB13
  go_wp2_with fail
  go_ret
  exact ⟨rfl, HB14.out⟩
end Go.Proofs.Ytdmkfdealedgoaa.F
