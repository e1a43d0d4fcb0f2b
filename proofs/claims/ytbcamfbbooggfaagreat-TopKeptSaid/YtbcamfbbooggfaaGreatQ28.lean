/- Part 28 of the proof: J1, J2, J3, J4, J5. -/
import Derived.Test.YtbcamfbbooggfaaGreatQ17
import Derived.Test.YtbcamfbbooggfaaGreatQ11
import Derived.Test.YtbcamfbbooggfaaGreatQ06
import Derived.Test.YtbcamfbbooggfaaGreatQ21
import Derived.Maps.OwnSet

section
/- A fact's kind names what it names. -/
set_option linter.unusedVariables false
set_option linter.unusedSimpArgs false
namespace Go.Proofs.YtbcamfbbooggfaaGreat.F
open Go.RowKit Go.Proofs.YtbcamfbbooggfaaGreatW.PrintWords
attribute [local go_sem ↓] Go.wp_at_zero Go.wp_at_succ

theorem RV.natAt {t : TypeId} {W : World} {A : Option Addr} {l : List Nat} (h : RV t W A l.length (l.map (encN .i64))) (i : Nat) (hi : i < l.length) : ∃ g o, A = some ⟨g, o, none⟩ ∧ W.cell? ⟨g, o + i, none⟩ = some (.int .i64 (l[i] : Nat)) := by
  obtain ⟨g, o, e, _, hc⟩ := h.2 (by omega)
  exact ⟨g, o, e, hc i _ (by simp [hi, encN])⟩
set_option maxHeartbeats 1000000 in
theorem KIndex_c (A : Option Addr) (c : Nat) (ks : List Nat) (k : Nat) (w : World) (hr : RV 97 w A ks.length (ks.map (encN .i64))) (hc : ks.length ≤ c) (hl : ks.length ≤ 100) :
    Calls Tryz.prog 179 #[.slice A ks.length c, .int .i64 (k : Nat)] w fun e w' => (∃ r : Int, e = .returned (.int .i64 r) ∧ decide (0 ≤ r) = ks.contains k) ∧ w' = w := by
  have HR := Lib.hid hr
  clear hr
  go_enter Tryz.func179, Tryz.ntmps179
  go_wp2_with fail
  go_loopw [8] (fun vi W => ∃ i : Nat, i ≤ ks.length ∧ vi = .int .i64 (i : Nat) ∧ (∀ x ∈ ks.take i, x ≠ k) ∧ W = w) (fun vi _ => ks.length - (RowKit.intOf vi).toNat)
  case atStart => exact ⟨0, by omega, rfl, by simp, rfl⟩
  case round =>
    obtain ⟨i, hi, rfl, hno, rfl⟩ := hrel
    by_cases hlt : i < ks.length
    · have d1 : decide ((i : Int) < (ks.length : Int)) = true := decide_eq_true (by omega)
      have i0 : (0 : Int) ≤ (i : Int) := by omega
      have i1 : (i : Int) < (ks.length : Int) := by omega
      obtain ⟨g, o, e, kk⟩ := RV.natAt HR.out i hlt
      subst e
      by_cases hx : ks[i] = k
      · rw [hx] at kk
        have hm : k ∈ ks := by rw [← hx]; exact List.getElem_mem hlt
        clear hno
        go_wp2_with fail
        go_ret
        exact ⟨⟨(i : Int), rfl, by rw [decide_eq_true i0]; simpa using hm⟩, rfl⟩
      · obtain ⟨y, hy⟩ : ∃ y, ks[i] = y := ⟨_, rfl⟩
        rw [hy] at kk hx
        have d2 : decide ((k : Int) = (y : Int)) = false := decide_eq_false (by omega)
        have d2q : ((k : Int) == (y : Int)) = false := by rw [beq_eq_false_iff_ne]; omega
        have d2' : decide (k = y) = false := decide_eq_false (by omega)
        have HNO := Lib.hid hno
        have HY := Lib.hid hy
        have HX := Lib.hid hx
        clear hno hy hx
        go_wp2_with fail
        refine ⟨⟨i + 1, by omega, by go_num, fun x hx => ?_, by first | rfl | trivial⟩, by simp [RowKit.intOf]; omega⟩
        rw [List.take_succ_eq_append_getElem hlt] at hx
        rcases List.mem_append.1 hx with h | h
        · exact HNO.out x h
        · rw [List.mem_singleton.1 h, HY.out]; exact HX.out
    · have d1 : decide ((i : Int) < (ks.length : Int)) = false := decide_eq_false (by omega)
      obtain rfl : i = ks.length := by omega
      rw [List.take_length] at hno
      have HNO := Lib.hid hno
      clear hno
      go_wp2_with fail
      go_ret
      exact ⟨⟨-1, rfl, by
        have : ks.contains k = false := by
          rw [Bool.eq_false_iff]
          intro h
          exact HNO.out k (by simpa using h) rfl
        rw [this]; rfl⟩, rfl⟩
set_option maxHeartbeats 1000000 in
theorem KContains_c (A : Option Addr) (c : Nat) (ks : List Nat) (k : Nat) (w : World) (hr : RV 97 w A ks.length (ks.map (encN .i64))) (hc : ks.length ≤ c) (hl : ks.length ≤ 100) :
    Calls Tryz.prog 155 #[.slice A ks.length c, .int .i64 (k : Nat)] w fun e w' => e = .returned (.bool (ks.contains k)) ∧ w' = w := by
  have HI := Lib.hid (KIndex_c A c ks k w hr hc hl)
  clear hr
  go_enter Tryz.func155, Tryz.ntmps155
  go_wp2_with fail
  refine HI.out.mono ?_
  rintro e w' ⟨⟨r, rfl, hrr⟩, hw⟩
  subst hw
  go_wp2_with fail
  go_ret
  exact ⟨by show Ending.returned (.bool (decide (k ∈ ks))) = _; rw [List.contains_eq_mem], rfl⟩
set_option maxHeartbeats 1000000 in
theorem Is_c (ks : List Nat) (g k : Nat) (w : World) (hg : w.cell? ⟨g, 0, none⟩ = some (.int .i64 (k : Nat))) (hgl : g < w.heap.size) (hl : ks.length ≤ 100) :
    Calls Tryz.prog 154 #[.slice (some ⟨w.heap.size, 0, none⟩) ks.length ks.length, .pointer (some ⟨g, 0, none⟩)] (w.alloc (.cells (ks.map (encN .i64)).toArray 97)) fun e w' => e = .returned (.bool (ks.contains k)) ∧ Below w.heap.size w w' ∧ w'.cell? ⟨g, 0, none⟩ = some (.int .i64 (k : Nat)) := by
  have hb : Below w.heap.size w (w.alloc (.cells (ks.map (encN .i64)).toArray 97)) := (Below.refl _ _).alloc (Nat.le_refl _) _
  have hr : RV 97 (w.alloc (.cells (ks.map (encN .i64)).toArray 97)) (some ⟨w.heap.size, 0, none⟩) ks.length (ks.map (encN .i64)) := RV_new _ w _ _ (by omega)
  have hk := (hb.cell (p := ⟨g, 0, none⟩) hgl).trans hg
  have HC := Lib.hid (KContains_c _ ks.length ks k _ hr (Nat.le_refl _) hl)
  obtain ⟨W1, hW1⟩ : ∃ W1, w.alloc (.cells (ks.map (encN .i64)).toArray 97) = W1 := ⟨_, rfl⟩
  rw [hW1] at hb hr hk HC ⊢
  obtain ⟨b, hbe⟩ : ∃ b, ks.contains k = b := ⟨_, rfl⟩
  rw [hbe] at HC ⊢
  clear hr hW1
  go_enter Tryz.func154, Tryz.ntmps154
  go_wp2_with fail
  refine HC.out.mono ?_
  rintro e w' ⟨rfl, hw⟩
  subst hw
  go_wp2_with fail
  go_ret
  exact ⟨rfl, hb, hk⟩
theorem IsB_c (ks : List Nat) (g k : Nat) (b : Bool) (w : World) (hg : w.cell? ⟨g, 0, none⟩ = some (.int .i64 (k : Nat))) (hgl : g < w.heap.size) (hl : ks.length ≤ 100) (hb : ks.contains k = b) :
    Calls Tryz.prog 154 #[.slice (some ⟨w.heap.size, 0, none⟩) ks.length ks.length, .pointer (some ⟨g, 0, none⟩)] (w.alloc (.cells (ks.map (encN .i64)).toArray 97)) fun e w' => e = .returned (.bool b) ∧ Below w.heap.size w w' ∧ w'.cell? ⟨g, 0, none⟩ = some (.int .i64 (k : Nat)) := by
  rw [← hb]
  exact Is_c ks g k w hg hgl hl
end Go.Proofs.YtbcamfbbooggfaaGreat.F
end

section
/- What Ticked names. -/
set_option linter.unusedVariables false
set_option linter.unusedSimpArgs false
namespace Go.Proofs.YtbcamfbbooggfaaGreat.F
open Go.RowKit Go.Proofs.YtbcamfbbooggfaaGreatW.PrintWords
attribute [local go_sem ↓] Go.wp_at_zero Go.wp_at_succ

abbrev noN : Array Value := #[.bool false, .bool false, .bool false, .bool false, .bool false, .bool false, .bool false, .bool false]
abbrev tickN : Array Value := #[.bool false, .bool false, .bool false, .bool true, .bool false, .bool false, .bool false, .bool false]
theorem tickN_one : tickN.all (·.oneCell') = true := by simp [tickN, Value.oneCell']
theorem info_names : (Tryz.prog.info? 229).map (·.size) = some 8 := by kernel_rfl
set_option maxRecDepth 20000 in
set_option maxHeartbeats 4000000 in
theorem named_c (w : World) : Calls Tryz.prog 127 #[.int .i64 8] w fun e w' => e = .returned (.agg tickN) ∧ Below w.heap.size w w' := by
  obtain ⟨W2, hW2⟩ : ∃ W2, (w.alloc (.cells #[.int .i64 8] 97)).alloc (.cells noN 229) = W2 := ⟨_, rfl⟩
  have hb2 : Below w.heap.size w W2 := by rw [← hW2]; exact ((Below.refl _ _).alloc (Nat.le_refl _) _).alloc (by simp) _
  have hs2 : w.heap.size + 2 ≤ W2.heap.size := by rw [← hW2]; simp
  have g1 : W2.heap[w.heap.size]? = some (.cells #[.int .i64 8] 97 (0, 0)) := by rw [← hW2]; exact (Below.heap_alloc _ _ _ (by simp)).trans (heap_alloc_new _ _)
  have g2 : W2.heap[w.heap.size + 1]? = some (.cells noN 229 (0, 0)) := by
    rw [← hW2]
    have := heap_alloc_new (w.alloc (.cells #[.int .i64 8] 97)) (.cells noN 229)
    simpa using this
  have k1 : W2.cell? ⟨w.heap.size, 0, none⟩ = some (.int .i64 (8 : Nat)) := by rw [cell_of_row _ _ _ _ _ _ g1]; rfl
  have HW2 := Lib.hid hW2
  have HB2 := Lib.hid hb2
  have HG2 := Lib.hid g2
  have HN := Lib.hid info_names
  clear hW2 hb2 g1 g2
  obtain ⟨gk, hgk⟩ : ∃ gk, w.heap.size = gk := ⟨_, rfl⟩
  have HGK := Lib.hid hgk
  rw [hgk] at k1 hs2
  clear hgk
  go_enter Tryz.func127, Tryz.ntmps127
  go_wp2_with (first | (rw [HW2.out]) | (rw [HGK.out]))
  refine (IsB_c [1, 2] gk 8 false W2 k1 (by omega) (by decide) (by decide)).mono ?_
  rintro e w3 ⟨rfl, hb3, k3⟩
  have HB3 := Lib.hid hb3
  have hz3 := hb3.size
  clear hb3
  go_wp2_with fail
  refine (IsB_c [3, 4, 5, 6] gk 8 false w3 k3 (by omega) (by decide) (by decide)).mono ?_
  rintro e w4 ⟨rfl, hb4, k4⟩
  have HB4 := Lib.hid (HB3.out.trans (hb4.mono hz3))
  have hz4 := hb4.size
  clear hb4 HB3 k3 k1
  go_wp2_with fail
  refine (IsB_c [3, 4] gk 8 false w4 k4 (by omega) (by decide) (by decide)).mono ?_
  rintro e w5 ⟨rfl, hb5, k5⟩
  have HB5 := Lib.hid (HB4.out.trans (hb5.mono (by omega)))
  have hz5 := hb5.size
  clear hb5 HB4 k4
  go_wp2_with fail
  refine (IsB_c [3, 5, 8] gk 8 true w5 k5 (by omega) (by decide) (by decide)).mono ?_
  rintro e w6 ⟨rfl, hb6, k6⟩
  have HB6 := Lib.hid (HB5.out.trans (hb6.mono (by omega)))
  have hz6 := hb6.size
  clear hb6 HB5 k5
  go_wp2_with fail
  refine (IsB_c [3] gk 8 false w6 k6 (by omega) (by decide) (by decide)).mono ?_
  rintro e w7 ⟨rfl, hb7, k7⟩
  have HB7 := Lib.hid (HB6.out.trans (hb7.mono (by omega)))
  have hz7 := hb7.size
  clear hb7 HB6 k6
  go_wp2_with fail
  refine (IsB_c [5] gk 8 false w7 k7 (by omega) (by decide) (by decide)).mono ?_
  rintro e w8 ⟨rfl, hb8, k8⟩
  have HB8 := Lib.hid (HB7.out.trans (hb8.mono (by omega)))
  have hz8 := hb8.size
  clear hb8 HB7 k7
  go_wp2_with fail
  refine (IsB_c [7] gk 8 false w8 k8 (by omega) (by decide) (by decide)).mono ?_
  rintro e w9 ⟨rfl, hb9, k9⟩
  have HB9 := Lib.hid (HB8.out.trans (hb9.mono (by omega)))
  have hz9 := hb9.size
  clear hb9 HB8 k8
  go_wp2_with fail
  refine (IsB_c [9] gk 8 false w9 k9 (by omega) (by decide) (by decide)).mono ?_
  rintro e w10 ⟨rfl, hb10, k10⟩
  have hb10' := HB9.out.trans (hb10.mono (by omega))
  have g10 : w10.heap[gk + 1]? = some (.cells noN 229 (0, 0)) := (hb10'.block (gk + 1) (by omega)).trans (by rw [← HGK.out]; exact HG2.out)
  have HG10 := Lib.hid g10
  have HBE := Lib.hid (HB2.out.trans (hb10'.mono (by have := HGK.out; omega)))
  clear hb10 hb10' g10 HB9 k9 k10
  go_wp2_with (refine wpList_store_row rfl 229 (.tmp 2) (.tmp 29) rfl (gk + 1) rfl tickN noN rfl 229 HG10.out HN.out rfl tickN_one ?_)
  refine bodyPost_ret (v := .agg tickN) (results_cell_row rfl _ _ (gk + 1) 229 tickN (0, 0) _ rfl (setRow_heap _ _ _ _ _ _ HG10.out) Tryz.underlying229 rfl HN.out) rfl ?_
  exact ⟨rfl, below_setRow HBE.out (by have := HGK.out; omega) _⟩
end Go.Proofs.YtbcamfbbooggfaaGreat.F
end

section
/- A fact of time is right. -/
set_option linter.unusedVariables false
set_option linter.unusedSimpArgs false
namespace Go.Proofs.YtbcamfbbooggfaaGreat.F
open Go.RowKit Go.Proofs.YtbcamfbbooggfaaGreatW.PrintWords
attribute [local go_sem ↓] Go.wp_at_zero Go.wp_at_succ

/-- The fact: it is time 1. -/
abbrev tickF : Array Value := #[.int .i64 8, .int .i64 0, .int .i64 0, .int .i64 0, .string ⟨#[]⟩, .int .i64 0, .int .i64 1, .slice none 0 0, .slice none 0 0, .slice none 0 0, .int .i64 0, .int .i64 0, .int .i64 0, .int .i64 0]
set_option maxHeartbeats 1000000 in
theorem rnum_c (n : Nat) (h : n ≤ 1) (w : World) : Calls Tryz.prog 135 #[.int .i64 (n : Nat)] w fun e w' => e = .returned (.bool true) ∧ w' = w := by
  have d1 : decide ((0 : Int) ≤ (n : Int)) = true := decide_eq_true (by omega)
  have d2 : decide ((n : Int) ≤ 9007199254740991) = true := decide_eq_true (by omega)
  have d2' : decide (n ≤ 9007199254740991) = true := decide_eq_true (by omega)
  go_enter Tryz.func135, Tryz.ntmps135
  go_wp2_with fail
  go_ret
  exact ⟨rfl, rfl⟩
theorem when_c (e0 : Int) (w : World) : Calls Tryz.prog 91 #[.bool false, .int .i64 e0] w fun e w' => e = .returned (.int .i64 0) ∧ w' = w := by
  go_enter Tryz.func91, Tryz.ntmps91
  go_wp2_with fail
  go_ret
  exact ⟨rfl, rfl⟩
set_option maxHeartbeats 1000000 in
theorem first_c (g : Nat) (w : World) (hg : w.cell? ⟨g, 0, none⟩ = some (.int .i64 0)) : Calls Tryz.prog 90 #[.slice (some ⟨g, 0, none⟩) 1 1] w fun e w' => e = .returned (.int .i64 0) ∧ w' = w := by
  go_enter Tryz.func90, Tryz.ntmps90
  go_wp2_with fail
  go_loopw [7] (fun vi W => ∃ i : Nat, i ≤ 1 ∧ vi = .int .i64 (i : Nat) ∧ W = w) (fun vi _ => 1 - (RowKit.intOf vi).toNat)
  case atStart => exact ⟨0, by omega, rfl, rfl⟩
  case round =>
    obtain ⟨i, hi, rfl, hW⟩ := hrel
    subst hW
    by_cases h0 : i = 0
    · subst h0
      go_wp2_with fail
      refine ⟨⟨1, by omega, by first | rfl | go_num, by first | rfl | trivial⟩, by simp [RowKit.intOf]⟩
    · obtain rfl : i = 1 := by omega
      go_wp2_with fail
      go_ret
      exact ⟨rfl, rfl⟩
set_option maxHeartbeats 1000000 in
theorem cfMove_c (fv : Value) (w : World) : Calls Tryz.prog 130 #[.slice none 0 0, fv] w fun e w' => e = .returned (.bool false) ∧ w' = w := by
  have hI : Calls Tryz.prog 158 #[.slice none 0 0, fv] w fun e w' => e = .returned (.int .i64 (-1)) ∧ w' = w := by
    go_enter Tryz.func158, Tryz.ntmps158
    go_wp2_with fail
    go_loopw [8] (fun vi W => vi = .int .i64 0 ∧ W = w) (fun vi _ => 0)
    case atStart => exact ⟨rfl, rfl⟩
    case round =>
      obtain ⟨rfl, rfl⟩ := hrel
      go_wp2_with fail
      go_ret
      exact ⟨rfl, rfl⟩
  go_enter Tryz.func130, Tryz.ntmps130
  go_wp2_with fail
  refine hI.mono ?_
  rintro e w' ⟨rfl, rfl⟩
  go_wp2_with fail
  go_ret
  exact ⟨rfl, rfl⟩
set_option maxHeartbeats 1000000 in
theorem cfHeld_c (fv : Value) (w : World) : Calls Tryz.prog 97 #[.slice none 0 0, fv] w fun e w' => e = .returned (.bool false) ∧ w' = w := by
  have hI : Calls Tryz.prog 137 #[.slice none 0 0, fv] w fun e w' => e = .returned (.int .i64 (-1)) ∧ w' = w := by
    go_enter Tryz.func137, Tryz.ntmps137
    go_wp2_with fail
    go_loopw [8] (fun vi W => vi = .int .i64 0 ∧ W = w) (fun vi _ => 0)
    case atStart => exact ⟨rfl, rfl⟩
    case round =>
      obtain ⟨rfl, rfl⟩ := hrel
      go_wp2_with fail
      go_ret
      exact ⟨rfl, rfl⟩
  go_enter Tryz.func97, Tryz.ntmps97
  go_wp2_with fail
  refine hI.mono ?_
  rintro e w' ⟨rfl, rfl⟩
  go_wp2_with fail
  go_ret
  exact ⟨rfl, rfl⟩
set_option maxRecDepth 20000 in
set_option maxHeartbeats 4000000 in
theorem bare_c (w : World) : Calls Tryz.prog 128 #[.agg tickF, .agg tickN] w fun e w' => e = .returned (.bool true) ∧ Below w.heap.size w w' := by
  have HB := Lib.hid (((Below.refl _ w).alloc (Nat.le_refl _) (.cells tickF 103)).alloc (by simp) (.cells tickN 229))
  go_enter Tryz.func128, Tryz.ntmps128
  go_wp2_with fail
  go_ret
  exact ⟨rfl, HB.out⟩
end Go.Proofs.YtbcamfbbooggfaaGreat.F
end

section
/- A fact of time is checked. -/
set_option linter.unusedVariables false
set_option linter.unusedSimpArgs false
namespace Go.Proofs.YtbcamfbbooggfaaGreat.F
open Go.RowKit Go.Proofs.YtbcamfbbooggfaaGreatW.PrintWords
attribute [local go_sem ↓] Go.wp_at_zero Go.wp_at_succ

set_option maxRecDepth 20000 in
set_option maxHeartbeats 4000000 in
theorem plain_c (w : World) : Calls Tryz.prog 129 #[.agg tickF, .agg tickN] w fun e w' => e = .returned (.bool true) ∧ Below w.heap.size w w' := by
  have HB := Lib.hid ((((Below.refl _ w).alloc (Nat.le_refl _) (.cells tickF 103)).alloc (by simp) (.cells tickN 229)).alloc (by simp; omega) (.cells #[.int .i64 0, .int .i64 0] 51))
  have h0 := fun W => rnum_c 0 (by omega) W
  have h1 := fun W => rnum_c 1 (by omega) W
  go_enter Tryz.func129, Tryz.ntmps129
  go_wp2_with fail
  refine (h0 _).mono ?_
  rintro e w1 ⟨rfl, hw⟩
  subst w1
  go_wp2_with fail
  refine (h1 _).mono ?_
  rintro e w1 ⟨rfl, hw⟩
  subst w1
  go_wp2_with fail
  go_ret
  exact ⟨rfl, HB.out⟩
set_option maxRecDepth 20000 in
set_option maxHeartbeats 4000000 in
theorem rfCheck_c (w : World) : Calls Tryz.prog 89 #[.agg tickF] w fun e w' => e = .returned (.int .i64 0) ∧ Below w.heap.size w w' := by
  obtain ⟨W1, hW1⟩ : ∃ W1, w.alloc (.cells tickF 103) = W1 := ⟨_, rfl⟩
  have hb1 : Below w.heap.size w W1 := by rw [← hW1]; exact (Below.refl _ _).alloc (Nat.le_refl _) _
  have g1 : W1.heap[w.heap.size]? = some (.cells tickF 103 (0, 0)) := by rw [← hW1]; exact heap_alloc_new _ _
  have hz1 := hb1.size
  have hgl := (Array.getElem?_eq_some_iff.1 g1).1
  obtain ⟨gf, hgf⟩ : ∃ gf, w.heap.size = gf := ⟨_, rfl⟩
  have HGF := Lib.hid hgf
  rw [hgf] at g1 hgl hz1
  clear hgf
  have HW1 := Lib.hid hW1
  have HB1 := Lib.hid hb1
  have HG1 := Lib.hid g1
  have k0 : W1.cell? ⟨gf, 0, none⟩ = some (.int .i64 8) := by rw [cell_of_row _ _ _ _ _ _ g1]; rfl
  clear hW1 hb1 g1
  go_enter Tryz.func89, Tryz.ntmps89
  go_wp2_with (first | (rw [HW1.out]) | (rw [HGF.out]))
  refine (named_c W1).mono ?_
  rintro e w2 ⟨rfl, hb2⟩
  obtain ⟨W3, hW3⟩ : ∃ W3, w2.alloc (.cells tickN 229) = W3 := ⟨_, rfl⟩
  have hb23 : Below w2.heap.size w2 W3 := by rw [← hW3]; exact (Below.refl _ _).alloc (Nat.le_refl _) _
  have g3 : W3.heap[w2.heap.size]? = some (.cells tickN 229 (0, 0)) := by rw [← hW3]; exact heap_alloc_new _ _
  have hb13 : Below W1.heap.size W1 W3 := hb2.trans (hb23.mono hb2.size)
  have gF3 : W3.heap[gf]? = some (.cells tickF 103 (0, 0)) := (hb13.block gf (by omega)).trans HG1.out
  have HW3 := Lib.hid hW3
  have HBR := Lib.hid (bare_c W3)
  have hz13 := hb13.size
  have HB3 := Lib.hid (HB1.out.trans (hb13.mono (by have := HGF.out; omega)))
  have HG3 := Lib.hid g3
  have HF3 := Lib.hid gF3
  have q : ∀ j v, tickF[j]? = some v → W3.cell? ⟨gf, j, none⟩ = some v := fun j v hv => by rw [cell_of_row _ _ _ _ _ _ gF3]; exact hv
  have qn : ∀ j v, tickN[j]? = some v → W3.cell? ⟨w2.heap.size, j, none⟩ = some v := fun j v hv => by rw [cell_of_row _ _ _ _ _ _ g3]; exact hv
  have HQ := Lib.hid (fun (W : World) (hb : Below W3.heap.size W3 W) (j : Nat) (v : Value) (hv : tickF[j]? = some v) => ((hb.cell (p := ⟨gf, j, none⟩) (Array.getElem?_eq_some_iff.1 gF3).1).trans (q j v hv) : W.cell? ⟨gf, j, none⟩ = some v))
  have HQN := Lib.hid (fun (W : World) (hb : Below W3.heap.size W3 W) (j : Nat) (v : Value) (hv : tickN[j]? = some v) => ((hb.cell (p := ⟨w2.heap.size, j, none⟩) (Array.getElem?_eq_some_iff.1 g3).1).trans (qn j v hv) : W.cell? ⟨w2.heap.size, j, none⟩ = some v))
  have f0 := q 0 _ rfl
  have f1 := q 1 _ rfl
  have f2 := q 2 _ rfl
  have f3 := q 3 _ rfl
  have f4 := q 4 _ rfl
  have f5 := q 5 _ rfl
  have f6 := q 6 _ rfl
  have f7 := q 7 _ rfl
  have f8 := q 8 _ rfl
  have f9 := q 9 _ rfl
  have f10 := q 10 _ rfl
  have f11 := q 11 _ rfl
  have f12 := q 12 _ rfl
  have f13 := q 13 _ rfl
  have n0 := qn 0 _ rfl
  have n1 := qn 1 _ rfl
  have n2 := qn 2 _ rfl
  have n3 := qn 3 _ rfl
  have n4 := qn 4 _ rfl
  have n5 := qn 5 _ rfl
  have n6 := qn 6 _ rfl
  have n7 := qn 7 _ rfl
  clear hb2 hb23 hb13 hW3 g3 gF3 q qn k0
  go_wp2_with (rw [HW3.out])
  refine HBR.out.mono ?_
  rintro e w4 ⟨rfl, hb4⟩
  clear f0 f1 f2 f3 f4 f5 f6 f7 f8 f9 f10 f11 f12 f13 n0 n1 n2 n3 n4 n5 n6 n7
  have f0 := HQ.out w4 hb4 0 _ rfl
  have f1 := HQ.out w4 hb4 1 _ rfl
  have f2 := HQ.out w4 hb4 2 _ rfl
  have f3 := HQ.out w4 hb4 3 _ rfl
  have f4 := HQ.out w4 hb4 4 _ rfl
  have f5 := HQ.out w4 hb4 5 _ rfl
  have f6 := HQ.out w4 hb4 6 _ rfl
  have f7 := HQ.out w4 hb4 7 _ rfl
  have f8 := HQ.out w4 hb4 8 _ rfl
  have f9 := HQ.out w4 hb4 9 _ rfl
  have f10 := HQ.out w4 hb4 10 _ rfl
  have f11 := HQ.out w4 hb4 11 _ rfl
  have f12 := HQ.out w4 hb4 12 _ rfl
  have f13 := HQ.out w4 hb4 13 _ rfl
  have n0 := HQN.out w4 hb4 0 _ rfl
  have n1 := HQN.out w4 hb4 1 _ rfl
  have n2 := HQN.out w4 hb4 2 _ rfl
  have n3 := HQN.out w4 hb4 3 _ rfl
  have n4 := HQN.out w4 hb4 4 _ rfl
  have n5 := HQN.out w4 hb4 5 _ rfl
  have n6 := HQN.out w4 hb4 6 _ rfl
  have n7 := HQN.out w4 hb4 7 _ rfl
  have HPL := Lib.hid (plain_c w4)
  have HB4 := Lib.hid hb4
  have hz4 := hb4.size
  clear hb4 HBR
  go_wp2_with fail
  refine HPL.out.mono ?_
  rintro e w5 ⟨rfl, hb5⟩
  clear f0 f1 f2 f3 f4 f5 f6 f7 f8 f9 f10 f11 f12 f13 n0 n1 n2 n3 n4 n5 n6 n7
  have hb35 := HB4.out.trans (hb5.mono hz4)
  have f0 := HQ.out w5 hb35 0 _ rfl
  have f1 := HQ.out w5 hb35 1 _ rfl
  have f2 := HQ.out w5 hb35 2 _ rfl
  have f3 := HQ.out w5 hb35 3 _ rfl
  have f4 := HQ.out w5 hb35 4 _ rfl
  have f5 := HQ.out w5 hb35 5 _ rfl
  have f6 := HQ.out w5 hb35 6 _ rfl
  have f7 := HQ.out w5 hb35 7 _ rfl
  have f8 := HQ.out w5 hb35 8 _ rfl
  have f9 := HQ.out w5 hb35 9 _ rfl
  have f10 := HQ.out w5 hb35 10 _ rfl
  have f11 := HQ.out w5 hb35 11 _ rfl
  have f12 := HQ.out w5 hb35 12 _ rfl
  have f13 := HQ.out w5 hb35 13 _ rfl
  have n0 := HQN.out w5 hb35 0 _ rfl
  have n1 := HQN.out w5 hb35 1 _ rfl
  have n2 := HQN.out w5 hb35 2 _ rfl
  have n3 := HQN.out w5 hb35 3 _ rfl
  have n4 := HQN.out w5 hb35 4 _ rfl
  have n5 := HQN.out w5 hb35 5 _ rfl
  have n6 := HQN.out w5 hb35 6 _ rfl
  have n7 := HQN.out w5 hb35 7 _ rfl
  have hz35 := hb35.size
  have HB5 := Lib.hid hb35
  have hm := fun fv => cfMove_c fv w5
  have hh := fun fv => cfHeld_c fv w5
  clear hb5 hb35 HPL HB4
  go_wp2_with fail
  refine (hm _).mono ?_
  rintro e w6 ⟨rfl, hw⟩
  subst w6
  go_wp2_with fail
  refine (hh _).mono ?_
  rintro e w6 ⟨rfl, hw⟩
  subst w6
  go_wp2_with fail
  go_loopw [65] (fun vi W => vi = .int .i64 0 ∧ W = w5) (fun vi _ => 0)
  case atStart => exact ⟨rfl, rfl⟩
  case round =>
    obtain ⟨rfl, rfl⟩ := hrel
    go_wp2_with fail
    go_ret
    exact ⟨rfl, HB3.out.trans (HB5.out.mono HB3.out.size)⟩
end Go.Proofs.YtbcamfbbooggfaaGreat.F
end

section
/- A book takes a fact of time. -/
set_option linter.unusedVariables false
set_option linter.unusedSimpArgs false
namespace Go.Proofs.YtbcamfbbooggfaaGreat.F
open Go.RowKit Go.Proofs.YtbcamfbbooggfaaGreatW.PrintWords Go.Maps
attribute [local go_sem ↓] Go.wp_at_zero Go.wp_at_succ

abbrev zeroShot : Array Value := #[.string ⟨#[]⟩, .int .i64 0, .slice none 0 0]
/-- An empty book. -/
def BK (W : World) (b fm sm : Nat) (now : Int) : Prop := W.heap[b]? = some (.cells #[.map (some fm), .map (some sm), .int .i64 now] 144 (0, 0)) ∧ W.heap[fm]? = some (.map #[] 0) ∧ W.heap[sm]? = some (.map #[] 0)
theorem BK.below {W W' : World} {b fm sm : Nat} {now : Int} (h : BK W b fm sm now) (hb : Below W.heap.size W W') : BK W' b fm sm now :=
  ⟨(hb.block b (Array.getElem?_eq_some_iff.1 h.1).1).trans h.1, (hb.block fm (Array.getElem?_eq_some_iff.1 h.2.1).1).trans h.2.1, (hb.block sm (Array.getElem?_eq_some_iff.1 h.2.2).1).trans h.2.2⟩
set_option maxHeartbeats 1000000 in
theorem NNew_c (w : World) : Calls Tryz.prog 25 #[] w fun e w' => ∃ b fm sm, e = .returned (.pointer (some ⟨b, 0, none⟩)) ∧ BK w' b fm sm 0 ∧ w.heap.size ≤ b ∧ Below w.heap.size w w' := by
  have hb : Below w.heap.size w (((w.alloc (.map #[] 0)).alloc (.map #[] 0)).alloc (.cells #[.map (some w.heap.size), .map (some (w.heap.size + 1)), .int .i64 0] 144)) := (((Below.refl _ w).alloc (Nat.le_refl _) _).alloc (by simp) _).alloc (by simp; omega) _
  have h1 : (((w.alloc (.map #[] 0)).alloc (.map #[] 0)).alloc (.cells #[.map (some w.heap.size), .map (some (w.heap.size + 1)), .int .i64 0] 144)).heap[w.heap.size]? = some (.map #[] 0) := (Below.heap_alloc _ _ _ (by simp; omega)).trans ((Below.heap_alloc _ _ _ (by simp)).trans (MapKept.heap_alloc w _).1)
  have h2 : (((w.alloc (.map #[] 0)).alloc (.map #[] 0)).alloc (.cells #[.map (some w.heap.size), .map (some (w.heap.size + 1)), .int .i64 0] 144)).heap[w.heap.size + 1]? = some (.map #[] 0) := by
    refine (Below.heap_alloc _ _ _ (by simp)).trans ?_
    have := (MapKept.heap_alloc (w.alloc (.map #[] 0)) (.map #[] 0)).1
    simpa using this
  have h3 : (((w.alloc (.map #[] 0)).alloc (.map #[] 0)).alloc (.cells #[.map (some w.heap.size), .map (some (w.heap.size + 1)), .int .i64 0] 144)).heap[w.heap.size + 2]? = some (.cells #[.map (some w.heap.size), .map (some (w.heap.size + 1)), .int .i64 0] 144 (0, 0)) := by
    have := heap_alloc_new ((w.alloc (.map #[] 0)).alloc (.map #[] 0)) (.cells #[.map (some w.heap.size), .map (some (w.heap.size + 1)), .int .i64 0] 144)
    simpa using this
  have HB := Lib.hid hb
  have H1 := Lib.hid h1
  have H2 := Lib.hid h2
  have H3 := Lib.hid h3
  clear hb h1 h2 h3
  have hmm := @run_makeMap Tryz.prog
  go_enter Tryz.func25, Tryz.ntmps25
  go_wp2_with fail
  go_ret
  exact ⟨w.heap.size + 2, w.heap.size, w.heap.size + 1, rfl, ⟨H3.out, H1.out, H2.out⟩, by omega, HB.out⟩
def rdShot : Value → Option (DataW Unit × List MemPlace)
  | .agg a => match a.toList with
    | [.string s, .int .i64 x, .slice none 0 0] => if s.data.size = 0 ∧ x = 0 then some (.lit (.bool true), []) else none
    | _ => none
  | _ => none
theorem rdShot_inv {v : Value} {ps : List MemPlace} (h : rdShot v = some (.lit (.bool true), ps)) : v = .agg zeroShot := by
  unfold rdShot at h
  split at h
  · rename_i a
    split at h
    · rename_i s x e
      split at h
      · rename_i hx
        have ea : a = #[.string s, .int .i64 x, .slice none 0 0] := by rw [← Array.toArray_toList (xs := a), e]
        have es : s = ⟨#[]⟩ := by
          cases s with
          | mk d => exact congrArg _ (Array.size_eq_zero_iff.1 hx.1)
        rw [ea, es, hx.2]
      · cases h
    · cases h
  · cases h
theorem rdShot_zero : rdShot (.agg zeroShot) = some (.lit (.bool true), []) := by simp [rdShot, zeroShot]
theorem look_empty (W : World) (sm : Nat) (h : W.heap[sm]? = some (.map #[] 0)) : (Instr.lookup 142 (.map (some sm)) (.string ⟨#[]⟩) true).run Tryz.prog W = .ok (.tuple #[.agg zeroShot, .bool false]) W := by
  have hown : W.ownsMap Tryz.prog 9 rdShot sm 0 (.map []) := ⟨#[], 0, h, ⟨by simp, MapKept.stamped_empty 0, by simp⟩, Nat.le_refl _, rfl⟩
  have hz : (zeroValue 156).run Tryz.prog W = .ok (.agg zeroShot) W := by kernel_rfl
  obtain ⟨v, ps, hrun, hv⟩ := hown.look_ok (Maps.string_keyed Tryz.underlying9) Tryz.underlying142 hz (zd := .lit (.bool true)) (zp := []) rdShot_zero (key := .string ⟨#[]⟩) (kl := .string []) (by kernel_rfl)
  have hv' := rdShot_inv hv
  rw [hv'] at hrun
  exact hrun
end Go.Proofs.YtbcamfbbooggfaaGreat.F
end
