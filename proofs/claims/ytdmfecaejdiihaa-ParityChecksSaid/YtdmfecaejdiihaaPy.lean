/- ParityEncodes, walked. -/
import Derived.Test.YtdmfecaejdiihaaPx
set_option linter.unusedVariables false
set_option linter.unusedSimpArgs false
namespace Go.Proofs.Ytdmfecaejdiihaa.F
open Go.RowKit Go.Proofs.YtdmfecaejdiihaaW.PrintWords

set_option maxRecDepth 20000 in
set_option maxHeartbeats 4000000 in
theorem ParityEncodes_walk (A : Option Addr) (c : Nat) (css : List (List Nat)) (m : Int) (w : World) (hr : RR w A css) (hb : ∀ x ∈ css.flatten, x < 256) :
    Calls Try.prog 3 #[.slice A css.length c, .int .i64 m] w fun e w' => e = .returned (.bool true) ∧ Below w.heap.size w w' := by
  have hmx := hr.max
  have HRR := Lib.hid hr
  have HB := Lib.hid hb
  clear hr hb
  go_enter Try.func3, Try.ntmps3
  go_wp2_with fail
  refine (few_c A c css 400 w HRR.out (by omega)).mono ?_
  rintro e w1 ⟨b, rfl, hbt, rfl⟩
  cases b with
  | false =>
    clear hbt
    go_wp2_with fail
    refine (live_c _).mono ?_
    rintro e w2 ⟨rfl, hb2⟩
    have HB2 := Lib.hid hb2
    clear hb2
    go_wp2_with fail
    go_ret
    exact ⟨rfl, HB2.out⟩
  | true =>
    have hfl := (hbt rfl).1
    obtain ⟨out, er, h1, h2⟩ := Encode_any css m hmx HB.out hfl
    have H1 := Lib.hid h1
    have H2 := Lib.hid h2
    clear hbt h1 h2
    go_wp2_with fail
    refine (H1.out A c _ HRR.out).mono ?_
    rintro e w2 ⟨A2, c2, rfl, rr2, hb2⟩
    have R2 := Lib.hid rr2
    have HRR2 := Lib.hid (HRR.out.below hb2)
    have HB2 := Lib.hid hb2
    clear rr2 hb2
    go_wp2_with fail
    refine (H2.out A c _ HRR2.out).mono ?_
    rintro e w3 ⟨A3, c3, rfl, rr3, hb3⟩
    have R3 := Lib.hid rr3
    have R23 := Lib.hid (R2.out.below hb3)
    have HB3 := Lib.hid (HB2.out.trans (hb3.mono HB2.out.size))
    clear rr3 hb3 R2 HB2
    go_wp2_with fail
    refine (live_c _).mono ?_
    rintro e w4 ⟨rfl, hb4⟩
    have R34 := Lib.hid (R3.out.below hb4)
    have R24 := Lib.hid (R23.out.below hb4)
    have HB4 := Lib.hid (HB3.out.trans (hb4.mono HB3.out.size))
    clear hb4 R3 R23 HB3
    go_wp2_with fail
    refine (Same_c A2 A3 c2 c3 out _ R24.out R34.out).mono ?_
    rintro e w5 ⟨rfl, n5, rfl⟩
    go_wp2_with fail
    go_ret
    exact ⟨by simp, pw_below_drewN HB4.out n5⟩
end Go.Proofs.Ytdmfecaejdiihaa.F
