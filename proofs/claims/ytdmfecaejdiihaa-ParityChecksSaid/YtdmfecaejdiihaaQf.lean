/- ParityRepairs, walked. -/
import Derived.Test.YtdmfecaejdiihaaQd
import Derived.Test.YtdmfecaejdiihaaPx
set_option linter.unusedVariables false
set_option linter.unusedSimpArgs false
namespace Go.Proofs.Ytdmfecaejdiihaa.F
open Go.RowKit Go.Proofs.YtdmfecaejdiihaaW.PrintWords

/-- The program's Repair and the document's answer alike. -/
theorem Repair_any (sv : List SD) (css : List (List Nat)) (k : Int) (hmx : (sv.length : Int) ≤ 9223372036854775807) (hsv : ∀ x ∈ sv, x.2.1 ≤ 4096) (hb : ∀ i, ∀ y ∈ css.getD i [], y < 256) (hll : ∀ i (h : i < sv.length), sv[i].2.1 = (css.getD i []).length) : ∃ out er,
    (∀ A c w, SV w A sv → Cs w sv css → Calls Try.prog 12 #[.slice A sv.length c, .int .i64 k] w (EncAns out er w)) ∧
    (∀ A c w, SV w A sv → Cs w sv css → Calls Try.prog 13 #[.slice A sv.length c, .int .i64 k] w (EncAns out er w)) := by
  by_cases hbad : k < 1 ∨ 32 < k ∨ (sv.length : Int) < k ∨ 16 < (sv.length : Int) - k
  · exact ⟨[], 2, fun A c w _ _ => Repair_bad A c sv k w hmx hbad, fun A c w _ _ => rRepair_bad A c sv k w hmx (by omega)⟩
  · obtain ⟨kn, rfl⟩ : ∃ kn : Nat, k = kn := ⟨k.toNat, by omega⟩
    obtain ⟨L, hL2, hL⟩ : ∃ L, L ≤ 4096 ∧ (wrongV (heldLens sv) = 0 → ∀ i (h : i < sv.length), sv[i].1.isSome = true → (css.getD i []).length = L) := by
      by_cases h0 : wrongV (heldLens sv) = 0
      · by_cases hh : ∃ i, ∃ h : i < sv.length, sv[i].1.isSome = true
        · obtain ⟨i, hi, hs⟩ := hh
          refine ⟨sv[i].2.1, hsv _ (List.getElem_mem _), fun _ j hj hjs => ?_⟩
          rw [← hll j hj]
          by_cases he : sv[j].2.1 = sv[i].2.1
          · exact he
          · have := wrongV_four (held_mem hj hjs) (held_mem hi hs) he
            omega
        · exact ⟨0, by omega, fun _ i hi hs => absurd ⟨i, hi, hs⟩ hh⟩
      · exact ⟨0, by omega, fun h => absurd h h0⟩
    exact ⟨repOut sv css kn L, repEr sv kn, fun A c w hI hcs => callsIn_wide.1 (Repair_in A c sv css kn L w hI hcs (by omega) (by omega) (by omega) (by omega) hsv hb hL hL2),
      fun A c w hI hcs => rRepair_c A c sv css kn L w hI hcs (by omega) (by omega) (by omega) (by omega) hsv hb hL hL2⟩
theorem bytes_at {css : List (List Nat)} (h : ∀ x ∈ css.flatten, x < 256) (i : Nat) : ∀ y ∈ css.getD i [], y < 256 := fun y hy => by
  by_cases hi : i < css.length
  · rw [show css.getD i [] = css[i] by simp [List.getD_eq_getElem?_getD, hi]] at hy
    exact h y (List.mem_flatten.2 ⟨_, List.getElem_mem _, hy⟩)
  · rw [show css.getD i [] = [] by rw [List.getD_eq_getElem?_getD, List.getElem?_eq_none (by omega)]; rfl] at hy
    simp at hy
theorem len_at (css : List (List Nat)) (i : Nat) : (css.getD i []).length ≤ css.flatten.length := by
  by_cases hi : i < css.length
  · rw [show css.getD i [] = css[i] by simp [List.getD_eq_getElem?_getD, hi]]
    exact (List.sublist_flatten_of_mem (List.getElem_mem _)).length_le
  · rw [show css.getD i [] = [] by rw [List.getD_eq_getElem?_getD, List.getElem?_eq_none (by omega)]; rfl]
    simp
set_option maxRecDepth 20000 in
set_option maxHeartbeats 4000000 in
theorem ParityRepairs_walk (A : Option Addr) (c : Nat) (css : List (List Nat)) (k : Int) (w : World) (hr : RR w A css) (hb : ∀ x ∈ css.flatten, x < 256) :
    Calls Try.prog 5 #[.slice A css.length c, .int .i64 k] w fun e w' => e = .returned (.bool true) ∧ Below w.heap.size w w' := by
  have hmx := hr.max
  obtain ⟨sv, hsl, hI, hcs⟩ := sv_of_rr hr
  have HRR := Lib.hid hr
  have HB := Lib.hid hb
  have HI := Lib.hid hI
  have HCS := Lib.hid hcs
  have HSL := Lib.hid hsl
  clear hr hb hI hcs hsl
  go_enter Try.func5, Try.ntmps5
  go_wp2_with fail
  refine (few_c A c css 400 w HRR.out (by omega)).mono ?_
  rintro e w1 ⟨b, rfl, hbt, rfl⟩
  cases b with
  | false =>
    clear hbt
    go_wp2_with fail
    refine (live_c _).mono ?_
    rintro e w2 ⟨rfl, hb2⟩
    have HB2 := Lib.hid hb2
    clear hb2
    go_wp2_with fail
    go_ret
    exact ⟨rfl, HB2.out⟩
  | true =>
    have hfl := (hbt rfl).1
    obtain ⟨out, er, h1, h2⟩ := Repair_any sv css k (by rw [HSL.out]; exact hmx) (fun x hx => by
      obtain ⟨i, hi, rfl⟩ := List.getElem_of_mem hx
      rw [(HCS.out i hi).2.1]
      have := len_at css i
      omega) (bytes_at HB.out) (fun i hi => (HCS.out i hi).2.1)
    rw [HSL.out] at h1 h2
    have H1 := Lib.hid h1
    have H2 := Lib.hid h2
    clear hbt h1 h2
    go_wp2_with fail
    refine (H1.out A c _ HI.out HCS.out).mono ?_
    rintro e w2 ⟨A2, c2, rfl, rr2, hb2⟩
    have R2 := Lib.hid rr2
    have HI2 := Lib.hid (HI.out.below hb2)
    have HCS2 := Lib.hid (HCS.out.below hb2)
    have HB2 := Lib.hid hb2
    clear rr2 hb2
    go_wp2_with fail
    refine (H2.out A c _ HI2.out HCS2.out).mono ?_
    rintro e w3 ⟨A3, c3, rfl, rr3, hb3⟩
    have R3 := Lib.hid rr3
    have R23 := Lib.hid (R2.out.below hb3)
    have HB3 := Lib.hid (HB2.out.trans (hb3.mono HB2.out.size))
    clear rr3 hb3 R2 HB2
    go_wp2_with fail
    refine (live_c _).mono ?_
    rintro e w4 ⟨rfl, hb4⟩
    have R34 := Lib.hid (R3.out.below hb4)
    have R24 := Lib.hid (R23.out.below hb4)
    have HB4 := Lib.hid (HB3.out.trans (hb4.mono HB3.out.size))
    clear hb4 R3 R23 HB3
    go_wp2_with fail
    refine (Same_c A2 A3 c2 c3 out _ R24.out R34.out).mono ?_
    rintro e w5 ⟨rfl, n5, rfl⟩
    go_wp2_with fail
    go_ret
    exact ⟨by simp, pw_below_drewN HB4.out n5⟩
end Go.Proofs.Ytdmfecaejdiihaa.F
