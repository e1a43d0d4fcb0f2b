/- What must be whatever is asked; ExtentNew, walked. -/
import Derived.Test.YtdfgaomlahpblaaEy
set_option linter.unusedVariables false
set_option linter.unusedSimpArgs false
namespace Go.Proofs.Ytdfgaomlahpblaa.F
open Go.RowKit Go.Proofs.YtdfgaomlahpblaaW.PrintWords

theorem live_take : takeF [(2, 4)] 2 = (2, 0, [(4, 2)]) := by decide
theorem live_claim : claimF 2 6 [(4, 2)] 5 1 = (0, [(4, 1)]) := by decide
theorem live_take2 : takeF [(4, 1)] 2 = (0, 8, [(4, 1)]) := by decide
set_option maxRecDepth 20000 in
set_option maxHeartbeats 4000000 in
theorem live_c (w : World) : Calls Try.prog 9 #[] w fun e w' => e = .returned (.bool true) ∧ Below w.heap.size w w' := by
  have hnew := New_c 2 6 w (by omega) (by omega)
  rw [if_pos (by decide)] at hnew
  have HNEW := Lib.hid hnew
  have eq1 := eqlR_run 4 1 4 1
  have gq := fun p q => eqGuardR p q .eql 4 1 4 1
  simp only [show ((4 : Int) == 4 && (1 : Int) == 1) = true by decide] at eq1
  clear hnew
  go_enter Try.func9, Try.ntmps9
  go_wp2_with fail
  refine HNEW.out.mono ?_
  rintro e w2 ⟨b, rfl, hb, hem, hb2⟩
  have HEM := Lib.hid hem
  have HB2 := Lib.hid hb2
  have hs2 := hb2.size
  clear hem hb2
  go_wp2_with fail
  have h := Take_c w.heap.size b 2 6 [(2, 4)] 2 w2 HEM.out hs2 (by simp) (by simp)
  rw [live_take] at h
  refine h.mono ?_
  clear h
  rintro e w3 ⟨rfl, hem3, hg3⟩
  have HEM3 := Lib.hid hem3
  have HG3 := Lib.hid hg3
  have hs3 := hg3.size
  clear hem3 hg3
  go_wp2_with fail
  have h := Claim_c w.heap.size b 2 6 [(4, 2)] 5 1 w3 HEM3.out (by omega) (by simp) (by simp) (by omega) (by omega)
  rw [live_claim] at h
  refine h.mono ?_
  clear h
  rintro e w4 ⟨rfl, hem4, hg4⟩
  have HEM4 := Lib.hid hem4
  have HG4 := Lib.hid hg4
  have hs4 := hg4.size
  clear hem4 hg4
  go_wp2_with fail
  have h := Take_c w.heap.size b 2 6 [(4, 1)] 2 w4 HEM4.out (by omega) (by simp) (by simp)
  rw [live_take2] at h
  refine h.mono ?_
  clear h
  rintro e w5 ⟨rfl, hem5, hg5⟩
  have HEM5 := Lib.hid hem5
  have HG5 := Lib.hid hg5
  have hs5 := hg5.size
  clear hem5 hg5
  go_wp2_with fail
  refine (Runs_c w.heap.size b 2 6 [(4, 1)] w5 HEM5.out (by simp)).mono ?_
  rintro e w6 ⟨v6, rfl, ho6, hb6⟩
  obtain ⟨A6, c6, e6, _, hr6⟩ := ho6.reads
  subst e6
  obtain ⟨g, o, eA, hgl, a1, a2⟩ := hr6.at 0 (by simp)
  subst eA
  have hbel : Below w.heap.size w w6 := by
    have h25 : Gr (fun k => k = b) w2 w5 := (HG3.out.trans HG4.out (fun _ _ h => h)).trans HG5.out (fun _ _ h => h)
    have h26 : Below w.heap.size w2 w6 := (h25.below hs2 (fun x hx => by rw [hx]; exact hb)).trans (hb6.mono (by omega))
    exact HB2.out.trans h26
  have HBEL := Lib.hid hbel
  simp only [Nat.zero_mul, Nat.add_zero, List.getElem_cons_zero, List.length_cons, List.length_nil, Nat.zero_add] at a1 a2 ⊢
  clear ho6 hb6 hr6 hbel
  go_wp2_with fail
  go_ret
  exact ⟨rfl, HBEL.out⟩
set_option maxRecDepth 20000 in
set_option maxHeartbeats 4000000 in
theorem ExtentNew_walk (f t : Int) (w : World) (hf : -9223372036854775808 ≤ f ∧ f ≤ 9223372036854775807) (ht : -9223372036854775808 ≤ t ∧ t ≤ 9223372036854775807) :
    Calls Try.prog 3 #[.int .i64 f, .int .i64 t] w fun e w' => e = .returned (.bool true) ∧ Below w.heap.size w w' := by
  by_cases hbad : f < 0 ∨ t < f ∨ 4096 < t
  · have hlive : ∀ W, Calls Try.prog 9 #[] W fun e w' => e = .returned (.bool true) ∧ Below W.heap.size W w' := live_c
    have hnew := New_bad f t w hbad
    have HNEW := Lib.hid hnew
    have HL := Lib.hid hlive
    clear hnew hlive
    by_cases h1 : f < 0
    · have d1 : decide (f < 0) = true := decide_eq_true h1
      go_enter Try.func3, Try.ntmps3
      go_wp2_with fail
      refine HNEW.out.mono ?_
      rintro e w2 ⟨rfl, rfl⟩
      go_wp2_with fail
      refine (HL.out _).mono ?_
      rintro e w3 ⟨rfl, hb3⟩
      have HB3 := Lib.hid hb3
      clear hb3
      go_wp2_with fail
      go_ret
      exact ⟨rfl, HB3.out⟩
    · have d1 : decide (f < 0) = false := decide_eq_false h1
      by_cases h2 : t < f
      · have d2 : decide (t < f) = true := decide_eq_true h2
        go_enter Try.func3, Try.ntmps3
        go_wp2_with fail
        refine HNEW.out.mono ?_
        rintro e w2 ⟨rfl, rfl⟩
        go_wp2_with fail
        refine (HL.out _).mono ?_
        rintro e w3 ⟨rfl, hb3⟩
        have HB3 := Lib.hid hb3
        clear hb3
        go_wp2_with fail
        go_ret
        exact ⟨rfl, HB3.out⟩
      · have d2 : decide (t < f) = false := decide_eq_false h2
        have d3 : decide (4096 < t) = true := decide_eq_true (by omega)
        go_enter Try.func3, Try.ntmps3
        go_wp2_with fail
        refine HNEW.out.mono ?_
        rintro e w2 ⟨rfl, rfl⟩
        go_wp2_with fail
        refine (HL.out _).mono ?_
        rintro e w3 ⟨rfl, hb3⟩
        have HB3 := Lib.hid hb3
        clear hb3
        go_wp2_with fail
        go_ret
        exact ⟨rfl, HB3.out⟩
  · obtain ⟨a, rfl⟩ : ∃ a : Nat, f = a := ⟨f.toNat, by omega⟩
    obtain ⟨b, rfl⟩ : ∃ b : Nat, t = b := ⟨t.toNat, by omega⟩
    have d1 : decide ((a : Int) < 0) = false := decide_eq_false (by omega)
    have d2 : decide ((b : Int) < a) = false := decide_eq_false (by omega)
    have d2' : decide (b < a) = false := decide_eq_false (by omega)
    have d3 : decide ((4096 : Int) < b) = false := decide_eq_false (by omega)
    have hnew := New_c a b w (by omega) (by omega)
    obtain ⟨l, hl⟩ : ∃ l, (if 0 < b - a then [(a, b - a)] else []) = l := ⟨_, rfl⟩
    rw [hl] at hnew
    have hsum : sumN l = b - a := by rw [← hl]; split <;> simp [sumN]; omega
    have hmost : mostN l = b - a := by rw [← hl]; split <;> simp [mostN]; omega
    have hr2 : ∀ r ∈ l, r.2 ≤ 4096 := fun r hr => by
      rw [← hl] at hr
      split at hr
      · simp at hr; subst hr; simp; omega
      · simp at hr
    have hll : l.length ≤ 10000 := by rw [← hl]; split <;> simp
    have HNEW := Lib.hid hnew
    have HSUM := Lib.hid hsum
    have HMOST := Lib.hid hmost
    have HR2 := Lib.hid hr2
    have k1 : (a : Int) ≤ b := by omega
    have k2 : (b : Int) ≤ 4096 := by omega
    clear hnew hl hsum hmost hr2 hbad hf ht
    go_enter Try.func3, Try.ntmps3
    go_wp2_with fail
    refine HNEW.out.mono ?_
    rintro e w2 ⟨x, rfl, hx, hem, hb2⟩
    have HEM := Lib.hid hem
    have HB2 := Lib.hid hb2
    have hs2 := hb2.size
    clear hem hb2
    go_wp2_with fail
    refine (live_c _).mono ?_
    rintro e w3 ⟨rfl, hb3⟩
    have HEM3 := Lib.hid (HEM.out.below hb3)
    have HB3 := Lib.hid (HB2.out.trans (hb3.mono hs2))
    have hs3 := HB3.out.size
    clear hb3
    go_wp2_with fail
    have hfree := Free_c (.pointer (some ⟨x, 0, none⟩)) l w3 (Runs_c w.heap.size x a b l _ (HEM3.out.below ((Below.refl _ _).alloc (Nat.le_refl _) _)) hll) HR2.out hll
    rw [HSUM.out, show ((b - a : Nat) : Int) = (b : Int) - a by omega] at hfree
    refine hfree.mono ?_
    clear hfree
    rintro e w4 ⟨rfl, hb4⟩
    have HEM4 := Lib.hid (HEM3.out.below hb4)
    have HB4 := Lib.hid (HB3.out.trans (hb4.mono hs3))
    have hs4 := HB4.out.size
    clear hb4
    go_wp2_with fail
    have hmost := Most_c (.pointer (some ⟨x, 0, none⟩)) l w4 (Runs_c w.heap.size x a b l _ (HEM4.out.below ((Below.refl _ _).alloc (Nat.le_refl _) _)) hll) HR2.out hll
    rw [HMOST.out, show ((b - a : Nat) : Int) = (b : Int) - a by omega] at hmost
    refine hmost.mono ?_
    clear hmost
    rintro e w5 ⟨rfl, hb5⟩
    have HB5 := Lib.hid (HB4.out.trans (hb5.mono hs4))
    clear hb5
    go_wp2_with fail
    go_ret
    exact ⟨by simp, HB5.out⟩
end Go.Proofs.Ytdfgaomlahpblaa.F
