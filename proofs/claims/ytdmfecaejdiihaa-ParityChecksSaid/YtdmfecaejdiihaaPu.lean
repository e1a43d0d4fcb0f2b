/- Few bytes; the document's parity, walked. -/
import Derived.Test.YtdmfecaejdiihaaPs
import Derived.WalkLawsBesides
set_option linter.unusedVariables false
set_option linter.unusedSimpArgs false
namespace Go.Proofs.Ytdmfecaejdiihaa.F
open Go.RowKit Go.Proofs.YtdmfecaejdiihaaW.PrintWords

theorem flat_take (out : List (List Nat)) (k : Nat) (h : k < out.length) : (out.take (k + 1)).flatten = (out.take k).flatten ++ out[k] := by
  rw [List.take_succ_eq_append_getElem h, List.flatten_append]; simp
def FewPost (css : List (List Nat)) (most : Nat) (w : World) (e : Ending) (w' : World) : Prop := ∃ b, e = .returned (.bool b) ∧ (b = true → css.flatten.length ≤ most ∧ css.length ≤ 82) ∧ w' = w
set_option maxRecDepth 20000 in
set_option maxHeartbeats 4000000 in
theorem few_c (A : Option Addr) (c : Nat) (css : List (List Nat)) (most : Nat) (w : World) (hr : RR w A css) (hm : most ≤ 1000) :
    Calls Try.prog 7 #[.slice A css.length c, .int .i64 most] w (FewPost css most w) := by
  have hmx := hr.max
  have HRR := Lib.hid hr
  have m0 : (0 : Int) ≤ (most : Int) := by omega
  have m1 : (most : Int) ≤ 1000 := by omega
  clear hr
  go_enter Try.func7, Try.ntmps7
  go_wp2_with fail
  go_loop [5, 6] (fun vn vi => ∃ k s : Nat, k ≤ css.length ∧ k ≤ 81 ∧ vi = .int .i64 k ∧ vn = .int .i64 s ∧ s = (css.take k).flatten.length ∧ s ≤ most) (fun _ vi => css.length - (intOf vi).toNat)
  case atStart => exact ⟨0, 0, by omega, by omega, rfl, rfl, by simp, by omega⟩
  case round =>
    obtain ⟨k, s, hk, hk8, rfl, rfl, hs, hsm⟩ := hrel
    have s1 : (s : Int) ≤ 1000 := by omega
    by_cases hlt : k < css.length
    · have hd : decide ((k : Int) < css.length) = true := decide_eq_true (by omega)
      obtain ⟨ad, A5, c5, e, q5, l5, r5⟩ := HRR.out.at k hlt
      subst e
      have hft := flat_take css k hlt
      have hlen := congrArg List.length hft
      rw [List.length_append, ← hs] at hlen
      have hr5 := r5.max
      obtain ⟨yl, hyl⟩ : ∃ yl, css[k].length = yl := ⟨_, rfl⟩
      rw [hyl] at q5 hlen hr5
      have HLEN := Lib.hid hlen
      have k0 : (0 : Int) ≤ (k : Int) := by omega
      have k1 : (k : Int) < (css.length : Int) := by omega
      clear hft hlen hyl l5 r5 hs
      by_cases hy : yl ≤ most + 1
      · have d1 : decide ((yl : Int) ≤ (most : Int) + 1) = true := decide_eq_true (by omega)
        have d2 : (yl : Int) ≤ (most : Int) + 1 := by omega
        have d3 : min (yl : Int) ((most : Int) + 1) = yl := by omega
        have l0 : (0 : Int) ≤ (s : Int) + yl := by omega
        have l1 : (s : Int) + yl ≤ 9223372036854775807 := by omega
        by_cases hc : s + yl ≤ most
        · have d4 : decide ((most : Int) < (s : Int) + yl) = false := decide_eq_false (by omega)
          by_cases hk80 : k ≤ 80
          · have d5 : decide ((80 : Int) < (k : Int)) = false := decide_eq_false (by omega)
            go_wp2_with fail
            go_round
            case rel => exact ⟨k + 1, s + yl, by omega, by omega, by go_num, by go_num, HLEN.out.symm, hc⟩
            case measure => simp [intOf]; omega
          · have d5 : decide ((80 : Int) < (k : Int)) = true := decide_eq_true (by omega)
            go_wp2_with fail
            go_ret
            exact ⟨false, rfl, fun h => (by cases h), rfl⟩
        · have d4 : decide ((most : Int) < (s : Int) + yl) = true := decide_eq_true (by omega)
          go_wp2_with fail
          go_ret
          exact ⟨false, rfl, fun h => (by cases h), rfl⟩
      · have d1 : decide ((yl : Int) ≤ (most : Int) + 1) = false := decide_eq_false (by omega)
        have d3 : min (yl : Int) ((most : Int) + 1) = (most : Int) + 1 := by omega
        have l0 : (0 : Int) ≤ (s : Int) + ((most : Int) + 1) := by omega
        have l1 : (s : Int) + ((most : Int) + 1) ≤ 9223372036854775807 := by omega
        have d4 : decide ((most : Int) < (s : Int) + ((most : Int) + 1)) = true := decide_eq_true (by omega)
        go_wp2_with fail
        go_ret
        exact ⟨false, rfl, fun h => (by cases h), rfl⟩
    · have hd : decide ((k : Int) < css.length) = false := decide_eq_false (by omega)
      have hfin : css.flatten.length ≤ most ∧ css.length ≤ 82 := by
        obtain rfl : k = css.length := by omega
        rw [List.take_length] at hs
        omega
      have HFIN := Lib.hid hfin
      clear hfin hs
      go_wp2_with fail
      go_ret
      exact ⟨true, rfl, fun _ => HFIN.out, rfl⟩
end Go.Proofs.Ytdmfecaejdiihaa.F
