/- What becomes of a Fork changes nothing. -/
import Derived.Test.YtdfgaomlahpblaaEB
set_option linter.unusedVariables false
set_option linter.unusedSimpArgs false
namespace Go.Proofs.Ytdfgaomlahpblaa.F
open Go.RowKit Go.Proofs.YtdfgaomlahpblaaW.PrintWords

/-- A run that an argument's box holds. -/
def BoxR (W : World) (b : Nat) (a n : Int) : Prop := W.heap[b]? = some (.cells #[.int .i64 a, .int .i64 n] 38 (0, 0))
theorem BoxR.below {W W' : World} {b N : Nat} {a n : Int} (h : BoxR W b a n) (hN : b < N) (hb : Below N W W') : BoxR W' b a n := (hb.block b hN).trans h
theorem BoxR.c0 {W : World} {b : Nat} {a n : Int} (h : BoxR W b a n) : W.cell? ⟨b, 0, none⟩ = some (.int .i64 a) := by rw [cell_of_row _ _ _ _ _ _ h]; rfl
theorem BoxR.c1 {W : World} {b : Nat} {a n : Int} (h : BoxR W b a n) : W.cell? ⟨b, 1, none⟩ = some (.int .i64 n) := by rw [cell_of_row _ _ _ _ _ _ h]; rfl
set_option maxRecDepth 20000 in
set_option maxHeartbeats 8000000 in
theorem ExtentForks_walk (c0 d0 : Nat) (A A3 : Option Addr) (ds dm : List Dd) (m0 m1 : Nat) (a n : Int) (w : World) (h0 : m0 < 256) (h1 : m1 < 256) (hr : RD w A ds) (hr3 : RD w A3 dm) :
    Calls Try.prog 7 #[.int .u8 m0, .int .u8 m1, .slice A ds.length c0, .slice A3 dm.length d0, .agg #[.int .i64 a, .int .i64 n]] w fun e w' => e = .returned (.bool true) ∧ Below w.heap.size w w' := by
  have hmx : (dm.length : Int) ≤ 9223372036854775807 := by have := hr3.1; omega
  have hbox : Below w.heap.size w (w.alloc (.cells #[.int .i64 a, .int .i64 n] 38)) := (Below.refl _ _).alloc (Nat.le_refl _) _
  have hbr : BoxR (w.alloc (.cells #[.int .i64 a, .int .i64 n] 38)) w.heap.size a n := heap_alloc_new w _
  have hp := play_c m0 m1 A c0 ds (w.alloc (.cells #[.int .i64 a, .int .i64 n] 38)) h0 h1 (hr.below hbox)
  have hr1 := hr3.below hbox
  obtain ⟨W1, hW1⟩ : ∃ W1, w.alloc (.cells #[.int .i64 a, .int .i64 n] 38) = W1 := ⟨_, rfl⟩
  rw [hW1] at hp hbox hbr hr1
  have hs1 : W1.heap.size = w.heap.size + 1 := by rw [← hW1]; simp
  obtain ⟨f, hf⟩ : ∃ f, m0 % 41 = f := ⟨_, rfl⟩
  rw [hf] at hp
  have hf2 : f ≤ 40 := by omega
  have hlen : m1 % 61 ≤ 60 := by omega
  have HP := Lib.hid hp
  have HW1 := Lib.hid hW1
  have HB1 := Lib.hid hbox
  have HBR := Lib.hid hbr
  have HR := Lib.hid hr1
  clear hp hr hr1 hr3 hf hW1 hbox hbr
  go_enter Try.func7, Try.ntmps7
  go_wp2_with fail
  rw [HW1.out]
  refine HP.out.mono ?_
  rintro e w2 ⟨bx, byy, T, l, rfl, hT, hxy, hbx, hby, hb⟩
  have hft : f + T.length ≤ 4096 := by omega
  have hll := (hxy.2.2.1.small hft).2.2
  have HXY := Lib.hid hxy
  have HB2 := Lib.hid (HB1.out.trans (hb.mono (by omega)))
  have HBR2 := Lib.hid (HBR.out.below (by omega) hb)
  have HR2 := Lib.hid (HR.out.below hb)
  have hs2 := HB2.out.size
  have hs12 := hb.size
  clear hb hxy
  go_wp2_with fail
  refine (Fork_c W1.heap.size bx f (f + T.length) l w2 HXY.out.1 (by omega)).mono ?_
  rintro e w3 ⟨fx, rfl, hfx, hem3, hb3⟩
  have HXY3 := Lib.hid (HXY.out.below hb3)
  have HEM3 := Lib.hid hem3
  have HB3 := Lib.hid (HB2.out.trans (hb3.mono hs2))
  have HBR3 := Lib.hid (HBR2.out.below (by omega) hb3)
  have HR3 := Lib.hid (HR2.out.below hb3)
  have hs3 := hb3.size
  have HB23 := Lib.hid hb3
  clear hem3 hb3
  go_wp2_with fail
  refine (Fork_r byy f T w3 HXY3.out.2.1).mono ?_
  rintro e w4 ⟨fy, rfl, hfy, hey4, hb4⟩
  have HXY4 := Lib.hid (HXY3.out.below hb4)
  have hfg : XY w4 w2.heap.size fx fy f T l := ⟨HEM3.out.below hb4, hey4, HXY3.out.2.2.1, by have := hb4.size; omega⟩
  have HFG := Lib.hid hfg
  have HB4 := Lib.hid (HB3.out.trans (hb4.mono (by omega)))
  have HBR4 := Lib.hid (HBR3.out.below (by omega) hb4)
  have HR4 := Lib.hid (HR3.out.below hb4)
  have HB24 := Lib.hid (HB23.out.trans (hb4.mono hs3))
  have hs4 := HB24.out.size
  have hfy2 : w2.heap.size ≤ fy := by omega
  clear hey4 hb4 hfg
  go_wp2_with fail
  go_loopw [16] (fun vi W => ∃ (i : Nat) (T' : List Bool) (l' : List Rn), i ≤ dm.length ∧ i ≤ 60 ∧ vi = .int .i64 i ∧ T'.length = T.length ∧ XY W w2.heap.size fx fy f T' l' ∧ Below w2.heap.size w2 W) (fun vi _ => 60 - (intOf vi).toNat)
  case atStart => exact ⟨0, T, l, by omega, by omega, rfl, rfl, HFG.out, HB24.out⟩
  case round =>
    obtain ⟨i, T', l', hi, hi2, rfl, hT', hxy, hB⟩ := hrel
    have hsz := hB.size
    have HFG2 := Lib.hid hxy
    have HB := Lib.hid hB
    have HT := Lib.hid hT'
    have HRR := Lib.hid (HR2.out.below hB)
    clear hxy hB hT'
    by_cases hgo : i < dm.length ∧ i < 60
    · obtain ⟨hlt, hlt2⟩ := hgo
      have d1 : decide ((i : Int) < dm.length) = true := decide_eq_true (by omega)
      have d2 : decide ((i : Int) < 60) = true := decide_eq_true (by omega)
      obtain ⟨ad, e, hl, hcc⟩ := HRR.out.2.1 (by omega)
      subst e
      obtain ⟨a1, a2, a3⟩ := hcc i hlt
      have hbd := HRR.out.2.2 _ (List.getElem_mem hlt)
      obtain ⟨⟨x1, x2, x3⟩, hx⟩ : ∃ x, dm[i] = x := ⟨_, rfl⟩
      rw [hx] at a1 a2 a3 hbd
      dsimp only at a1 a2 a3 hbd
      have i0 : (0 : Int) ≤ (i : Int) := by omega
      have i1 : (i : Int) < (dm.length : Int) := by omega
      have hdo := do_c w2.heap.size fx fy f T' l' x1 x2 x3 wr HFG2.out (by rw [HT.out]; omega) hbd
      have HDO := Lib.hid hdo
      clear hcc hx hdo
      go_wp2_with fail
      refine HDO.out.mono ?_
      rintro e w5 ⟨rfl, T5, l5, hT5, hxy5, hg5⟩
      have hb5 : Below w2.heap.size w2 w5 := HB.out.trans (hg5.below hsz (fun x hx => by rcases hx with hx | hx <;> omega))
      have HXY5 := Lib.hid hxy5
      have HT5 := Lib.hid (hT5.trans HT.out)
      have HB5 := Lib.hid hb5
      clear hT5 hxy5 hg5 hb5
      go_wp2_with fail
      exact ⟨⟨i + 1, T5, l5, by omega, by omega, by go_num, HT5.out, HXY5.out, HB5.out⟩, by simp [intOf]; omega⟩
    · have HXYw := Lib.hid (HXY.out.below HB.out)
      have HBRw := Lib.hid (HBR2.out.below (by omega) HB.out)
      have HBw := Lib.hid (HB2.out.trans (HB.out.mono hs2))
      have k1 := HBRw.out.c1
      by_cases hlt : i < dm.length
      · have d1 : decide ((i : Int) < dm.length) = true := decide_eq_true (by omega)
        have d2 : decide ((i : Int) < 60) = false := decide_eq_false (by omega)
        clear hgo
        go_wp2_with fail
        refine (Take_nil n wr).mono ?_
        rintro e w5 ⟨rfl, hb5⟩
        have HX5 := Lib.hid (HXYw.out.below hb5)
        have HF5 := Lib.hid (HFG2.out.below hb5)
        have HR5 := Lib.hid (HBRw.out.below (by omega) hb5)
        have HB5 := Lib.hid (HBw.out.trans (hb5.mono (by omega)))
        have hs5 := hb5.size
        clear hb5 k1
        go_wp2_with fail
        refine (live_c _).mono ?_
        rintro e w6 ⟨rfl, hb6⟩
        have HX6 := Lib.hid (HX5.out.below hb6)
        have HF6 := Lib.hid (HF5.out.below hb6)
        have HR6 := Lib.hid (HR5.out.below (by omega) hb6)
        have HB6 := Lib.hid (HB5.out.trans (hb6.mono (by omega)))
        have hs6 := hb6.size
        clear hb6
        go_wp2_with fail
        refine (alike_c W1.heap.size bx byy f T l w6 HX6.out hft).mono ?_
        rintro e w7 ⟨rfl, hb7⟩
        have HF7 := Lib.hid (HF6.out.below hb7)
        have HR7 := Lib.hid (HR6.out.below (by omega) hb7)
        have HB7 := Lib.hid (HB6.out.trans (hb7.mono (by omega)))
        have hs7 := hb7.size
        clear hb7
        go_wp2_with fail
        refine (alike_c w2.heap.size fx fy f T' l' w7 HF7.out (by rw [HT.out]; exact hft)).mono ?_
        rintro e w8 ⟨rfl, hb8⟩
        have HR8 := Lib.hid (HR7.out.below (by omega) hb8)
        have HB8 := Lib.hid (HB7.out.trans (hb8.mono (by omega)))
        have hs8 := hb8.size
        have q0 := HR8.out.c0
        have q1 := HR8.out.c1
        clear hb8
        go_wp2_with fail
        refine (Claim_nil a n w8).mono ?_
        rintro e w9 ⟨rfl, hb9⟩
        have HR9 := Lib.hid (HR8.out.below (by omega) hb9)
        have HB9 := Lib.hid (HB8.out.trans (hb9.mono (by omega)))
        have hs9 := hb9.size
        have r0 := HR9.out.c0
        have r1 := HR9.out.c1
        clear hb9 q0 q1
        go_wp2_with fail
        refine (Give_nil a n w9).mono ?_
        rintro e wA ⟨rfl, hbA⟩
        have HBA := Lib.hid (HB9.out.trans (hbA.mono (by omega)))
        have hsA := hbA.size
        clear hbA r0 r1
        go_wp2_with fail
        have hfr := Free_c (.pointer none) [] wA (Runs_nil _) (by simp) (by simp)
        rw [show ((sumN [] : Nat) : Int) = 0 from rfl] at hfr
        refine hfr.mono ?_
        clear hfr
        rintro e wB ⟨rfl, hbB⟩
        have HBB := Lib.hid (HBA.out.trans (hbB.mono (by omega)))
        have hsB := hbB.size
        clear hbB
        go_wp2_with fail
        have hmo := Most_c (.pointer none) [] wB (Runs_nil _) (by simp) (by simp)
        rw [show ((mostN [] : Nat) : Int) = 0 from rfl] at hmo
        refine hmo.mono ?_
        clear hmo
        rintro e wC ⟨rfl, hbC⟩
        have HBC := Lib.hid (HBB.out.trans (hbC.mono (by omega)))
        have hsC := hbC.size
        clear hbC
        go_wp2_with fail
        refine (Runs_nil wC).mono ?_
        rintro e wD ⟨vD, rfl, hoD, hbD⟩
        obtain ⟨AD, cD, eD, _, _⟩ := hoD.reads
        subst eD
        simp only [List.length_nil]
        have HBD := Lib.hid (HBC.out.trans (hbD.mono (by omega)))
        clear hbD hoD
        go_wp2_with fail
        refine (Fork_nil wD).mono ?_
        rintro e wE ⟨rfl, rfl⟩
        go_wp2_with fail
        go_ret
        exact ⟨rfl, HBD.out⟩
      · have d1 : decide ((i : Int) < dm.length) = false := decide_eq_false (by omega)
        clear hgo
        go_wp2_with fail
        refine (Take_nil n wr).mono ?_
        rintro e w5 ⟨rfl, hb5⟩
        have HX5 := Lib.hid (HXYw.out.below hb5)
        have HF5 := Lib.hid (HFG2.out.below hb5)
        have HR5 := Lib.hid (HBRw.out.below (by omega) hb5)
        have HB5 := Lib.hid (HBw.out.trans (hb5.mono (by omega)))
        have hs5 := hb5.size
        clear hb5 k1
        go_wp2_with fail
        refine (live_c _).mono ?_
        rintro e w6 ⟨rfl, hb6⟩
        have HX6 := Lib.hid (HX5.out.below hb6)
        have HF6 := Lib.hid (HF5.out.below hb6)
        have HR6 := Lib.hid (HR5.out.below (by omega) hb6)
        have HB6 := Lib.hid (HB5.out.trans (hb6.mono (by omega)))
        have hs6 := hb6.size
        clear hb6
        go_wp2_with fail
        refine (alike_c W1.heap.size bx byy f T l w6 HX6.out hft).mono ?_
        rintro e w7 ⟨rfl, hb7⟩
        have HF7 := Lib.hid (HF6.out.below hb7)
        have HR7 := Lib.hid (HR6.out.below (by omega) hb7)
        have HB7 := Lib.hid (HB6.out.trans (hb7.mono (by omega)))
        have hs7 := hb7.size
        clear hb7
        go_wp2_with fail
        refine (alike_c w2.heap.size fx fy f T' l' w7 HF7.out (by rw [HT.out]; exact hft)).mono ?_
        rintro e w8 ⟨rfl, hb8⟩
        have HR8 := Lib.hid (HR7.out.below (by omega) hb8)
        have HB8 := Lib.hid (HB7.out.trans (hb8.mono (by omega)))
        have hs8 := hb8.size
        have q0 := HR8.out.c0
        have q1 := HR8.out.c1
        clear hb8
        go_wp2_with fail
        refine (Claim_nil a n w8).mono ?_
        rintro e w9 ⟨rfl, hb9⟩
        have HR9 := Lib.hid (HR8.out.below (by omega) hb9)
        have HB9 := Lib.hid (HB8.out.trans (hb9.mono (by omega)))
        have hs9 := hb9.size
        have r0 := HR9.out.c0
        have r1 := HR9.out.c1
        clear hb9 q0 q1
        go_wp2_with fail
        refine (Give_nil a n w9).mono ?_
        rintro e wA ⟨rfl, hbA⟩
        have HBA := Lib.hid (HB9.out.trans (hbA.mono (by omega)))
        have hsA := hbA.size
        clear hbA r0 r1
        go_wp2_with fail
        have hfr := Free_c (.pointer none) [] wA (Runs_nil _) (by simp) (by simp)
        rw [show ((sumN [] : Nat) : Int) = 0 from rfl] at hfr
        refine hfr.mono ?_
        clear hfr
        rintro e wB ⟨rfl, hbB⟩
        have HBB := Lib.hid (HBA.out.trans (hbB.mono (by omega)))
        have hsB := hbB.size
        clear hbB
        go_wp2_with fail
        have hmo := Most_c (.pointer none) [] wB (Runs_nil _) (by simp) (by simp)
        rw [show ((mostN [] : Nat) : Int) = 0 from rfl] at hmo
        refine hmo.mono ?_
        clear hmo
        rintro e wC ⟨rfl, hbC⟩
        have HBC := Lib.hid (HBB.out.trans (hbC.mono (by omega)))
        have hsC := hbC.size
        clear hbC
        go_wp2_with fail
        refine (Runs_nil wC).mono ?_
        rintro e wD ⟨vD, rfl, hoD, hbD⟩
        obtain ⟨AD, cD, eD, _, _⟩ := hoD.reads
        subst eD
        simp only [List.length_nil]
        have HBD := Lib.hid (HBC.out.trans (hbD.mono (by omega)))
        clear hbD hoD
        go_wp2_with fail
        refine (Fork_nil wD).mono ?_
        rintro e wE ⟨rfl, rfl⟩
        go_wp2_with fail
        go_ret
        exact ⟨rfl, HBD.out⟩
end Go.Proofs.Ytdfgaomlahpblaa.F
