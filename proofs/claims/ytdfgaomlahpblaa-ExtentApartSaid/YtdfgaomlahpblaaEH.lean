/- ExtentApart, walked. -/
import Derived.Test.YtdfgaomlahpblaaEG
set_option linter.unusedVariables false
set_option linter.unusedSimpArgs false
namespace Go.Proofs.Ytdfgaomlahpblaa.F
open Go.RowKit Go.Proofs.YtdfgaomlahpblaaW.PrintWords

theorem count_both : ∀ T : List Bool, T.countP (fun b => b) + T.countP (fun b => !b) = T.length
  | [] => rfl
  | b :: r => by
    have := count_both r
    cases b <;> simp <;> omega
theorem u64_nat (x : Int) : ∃ y : Nat, IntKind.u64.wrap x = y := by
  refine ⟨(x % 18446744073709551616).toNat, ?_⟩
  have h : IntKind.u64.wrap x = x % 18446744073709551616 := by simp [IntKind.wrap, IntKind.bits, IntKind.signed]
  rw [h]
  omega
set_option maxRecDepth 20000 in
set_option maxHeartbeats 16000000 in
theorem apart_c (m0 m1 : Nat) (A : Option Addr) (c len : Nat) (w : World) (h0 : m0 < 256) (h1 : m1 < 256) (hr : RI w A len) :
    Calls Try.prog 4 #[.int .u8 m0, .int .u8 m1, .slice A len c] w fun e w' => e = .returned (.bool true) ∧ Below w.heap.size w w' := by
  have hmx : (len : Int) ≤ 9223372036854775807 := by have := hr.1; omega
  have hbo := bounds_c m0 m1 w h0 h1
  obtain ⟨f, hf⟩ : ∃ f, m0 % 41 = f := ⟨_, rfl⟩
  obtain ⟨n, hn⟩ : ∃ n, m1 % 61 = n := ⟨_, rfl⟩
  have hf2 : f ≤ 40 := by omega
  have hn2 : n ≤ 60 := by omega
  rw [hf, hn] at hbo
  have hnew := New_c f (f + n) w (by omega) (by omega)
  rw [show f + n - f = n by omega] at hnew
  have HBO := Lib.hid hbo
  have HNEW := Lib.hid hnew
  have HR := Lib.hid hr
  have hmm := @run_makeMap Try.prog
  clear hbo hnew hf hn hr
  go_enter Try.func4, Try.ntmps4
  go_wp2_with fail
  refine HBO.out.mono ?_
  rintro e w1 ⟨rfl, rfl⟩
  go_wp2_with fail
  refine HNEW.out.mono ?_
  rintro e w2 ⟨bx, rfl, hbx, hem, hb2⟩
  have hbm := (Below.refl w2.heap.size w2).alloc (Nat.le_refl _) (.map #[] 0)
  have HEM := Lib.hid (hem.below hbm)
  have hs2 := hb2.size
  have HB2 := Lib.hid (hb2.trans (hbm.mono hs2))
  have hom : OM (w2.alloc (.map #[] 0)) w2.heap.size 0 (.map []) := World.ownsMap_made _ _ _ _
  have HOM := Lib.hid hom
  have htied : Tied (.map []) f (List.replicate n false) := ⟨fun j hj => by
    rw [List.length_replicate] at hj
    rw [getD_at (by simpa using hj)]
    simp [Maps.has], by simp [Maps.size, List.countP_replicate]⟩
  have HTI := Lib.hid htied
  clear hem hb2 hbm hom htied
  go_wp2_with fail
  go_loopw [12] (fun vi W => ∃ (i : Nat) (T : List Bool) (l : List Rn) (D : DataW Unit) (cnt : Nat), i ≤ len ∧ i ≤ 80 ∧ vi = .int .i64 i ∧ T.length = n ∧ Rel f T l ∧ EM W w1.heap.size bx f (f + n) l ∧ OM W w2.heap.size cnt D ∧ cnt ≤ 9 * i ∧ Tied D f T ∧ Below w1.heap.size w1 W) (fun vi _ => 80 - (intOf vi).toNat)
  case atStart => exact ⟨0, _, _, _, 0, by omega, by omega, rfl, List.length_replicate, Rel.new f n, HEM.out, HOM.out, by omega, HTI.out, HB2.out⟩
  case round =>
    obtain ⟨i, T, l, D, cnt, hi, hi2, rfl, hT, hrl, hem, hom, hcnt, hti, hB⟩ := hrel
    have hsz := hB.size
    have HREL := Lib.hid hrl
    have HEM2 := Lib.hid hem
    have HOM2 := Lib.hid hom
    have HTI2 := Lib.hid hti
    have HB := Lib.hid hB
    have HTL := Lib.hid hT
    have hn0 := hrl.small (by rw [hT]; omega)
    have HSM := Lib.hid hn0
    have hll : l.length ≤ 4096 := hn0.2.2
    clear hrl hem hom hti hB hT hn0
    by_cases hgo : i < len ∧ i < 80
    · obtain ⟨hlt, hlt2⟩ := hgo
      have d1 : decide ((i : Int) < len) = true := decide_eq_true (by omega)
      have d2 : decide ((i : Int) < 80) = true := decide_eq_true (by omega)
      obtain ⟨g, o, e, hgl, hcc⟩ := (HR.out.below HB.out).2 (by omega)
      subst e
      obtain ⟨x, a1⟩ := hcc i hlt
      have i0 : (0 : Int) ≤ (i : Int) := by omega
      have i1 : (i : Int) < (len : Int) := by omega
      obtain ⟨y, hy⟩ : ∃ y : Nat, IntKind.u64.wrap x = y := u64_nat x
      have y0 : (0 : Int) ≤ (y : Int) % 9 := by omega
      have y1 : (y : Int) % 9 ≤ 8 := by omega
      clear hcc
      go_wp2_with fail
      obtain ⟨m, hm⟩ : ∃ m : Nat, (1 : Int) + (y : Int) % 9 = m := ⟨(1 + (y : Int) % 9).toNat, by omega⟩
      have hm9 : m ≤ 9 := by omega
      rw [hm]
      clear hm y0 y1 hy a1
      have htk := Take_c w1.heap.size bx f (f + n) l m wr HEM2.out hsz HSM.out.1 (by omega)
      rcases take_parts HREL.out (m : Int) with ⟨k1, k2⟩ | ⟨k1, k2, k3⟩ | ⟨p, m', a, hmm', k2, k3, k4, k5, k6, k7, k8, k9⟩
      · rw [k2] at htk
        refine htk.mono ?_
        clear htk k2
        rintro e w3 ⟨rfl, hem3, hg3⟩
        have HEM3 := Lib.hid hem3
        have HOM3 := Lib.hid (HOM2.out.gr hg3 (HEM2.out.neB HOM2.out))
        have HB3 := Lib.hid (HB.out.trans (hg3.below hsz (fun x hx => by rw [hx]; exact hbx)))
        clear hem3 hg3
        go_wp2_with fail
        exact ⟨⟨i + 1, T, l, D, cnt, by omega, by omega, by go_num, HTL.out, HREL.out, HEM3.out, HOM3.out, by omega, HTI2.out, HB3.out⟩, by simp [intOf]; omega⟩
      · rw [k2] at htk
        refine htk.mono ?_
        clear htk k2
        rintro e w3 ⟨rfl, hem3, hg3⟩
        have HEM3 := Lib.hid hem3
        have HOM3 := Lib.hid (HOM2.out.gr hg3 (HEM2.out.neB HOM2.out))
        have HB3 := Lib.hid (HB.out.trans (hg3.below hsz (fun x hx => by rw [hx]; exact hbx)))
        clear hem3 hg3
        go_wp2_with fail
        exact ⟨⟨i + 1, T, l, D, cnt, by omega, by omega, by go_num, HTL.out, HREL.out, HEM3.out, HOM3.out, by omega, HTI2.out, HB3.out⟩, by simp [intOf]; omega⟩
      · obtain rfl : m' = m := by omega
        have hfree := HREL.out.free k4 k3 k5 k8 k9 k6
        rw [HTL.out] at k6 k9
        rw [k2] at htk
        refine htk.mono ?_
        clear htk k2
        rintro e w3 ⟨rfl, hem3, hg3⟩
        have HEM3 := Lib.hid hem3
        have HOM3 := Lib.hid (HOM2.out.gr hg3 (HEM2.out.neB HOM2.out))
        have HB3 := Lib.hid (HB.out.trans (hg3.below hsz (fun x hx => by rw [hx]; exact hbx)))
        have hs3 := HB3.out.size
        have HK8 := Lib.hid k8
        have HK9 := Lib.hid k9
        have HFR := Lib.hid hfree
        have HL := Lib.hid (show setT T (a - f) 0 true = T from setT_none _ _ _)
        have hap : a - f + m' ≤ n := by omega
        have hfa : f + (a - f) = a := by omega
        obtain ⟨L, hL⟩ : ∃ L, cutL l p a m' = L := ⟨_, rfl⟩
        rw [hL] at HEM3 HK8 HK9
        clear hem3 hg3 k8 k9 k7 hL hfree
        go_wp2_with fail
        go_loopw [16] (fun vk W => ∃ (j : Nat) (D : DataW Unit), j ≤ m' ∧ vk = .int .i64 ((a + j : Nat) : Int) ∧ EM W w1.heap.size bx f (f + n) L ∧ OM W w2.heap.size (cnt + j) D ∧ Tied D f (setT T (a - f) j true) ∧ Below w1.heap.size w1 W) (fun vk _ => a + m' - (intOf vk).toNat)
        case atStart => exact ⟨0, D, by omega, rfl, HEM3.out, HOM3.out, by rw [HL.out]; exact HTI2.out, HB3.out⟩
        case round =>
          obtain ⟨j, D4, hj, rfl, hem4, hom4, hti4, hB4⟩ := hrel
          have HEM4 := Lib.hid hem4
          have HOM4 := Lib.hid hom4
          have HTI4 := Lib.hid hti4
          have HB4 := Lib.hid hB4
          have hs4 := hB4.size
          have htd := World.ownsMap.tidy hom4 lawInt
          have HTD := Lib.hid htd
          clear hem4 hom4 hti4 hB4 htd
          obtain ⟨k, hk⟩ : ∃ k, a + j = k := ⟨_, rfl⟩
          rw [hk]
          have ka : a ≤ k := by omega
          have kb : k ≤ a + m' := by omega
          by_cases hjm : j < m'
          · have e1 : decide ((k : Int) < (a : Int) + (m' : Int)) = true := decide_eq_true (by omega)
            have e2 : decide ((k : Int) < (f : Int)) = false := decide_eq_false (by omega)
            have e3 : decide ((f : Int) + (n : Int) ≤ (k : Int)) = false := decide_eq_false (by omega)
            have hwf : (Lit.int .i64 (k : Int)).wf = true := WalkArith.wf_i64 (by omega)
            have hkey := Maps.keyOf_int_mk Try.underlying3 hwf
            have hjl : a - f + j < (setT T (a - f) j true).length := by rw [setT_len, HTL.out]; omega
            have hold : (setT T (a - f) j true).getD (a - f + j) true = false := by
              rw [setT_get _ _ _ _ _ (by rw [HTL.out]; omega), if_neg (by omega)]
              exact HFR.out _ (by omega) (by omega)
            have hnh : Maps.has D4 (.int .i64 (k : Int)) = false := by
              have := HTI4.out.1 _ hjl
              rw [hold, show f + (a - f + j) = k by omega] at this
              exact this
            obtain ⟨v, hrun, hat, _⟩ := World.ownsMap.lookup_int HOM4.out lawInt Try.underlying32 Try.underlying3 (zeroInt _) hkey
            rw [Maps.atKey_of_not_has hnh] at hat
            obtain rfl : (0 : Int) = v := by injection hat with hat; injection hat
            have hp := HTI4.out.put HTD.out (a - f + j) hjl hold (.lit (.int .i64 ((i : Int) + 1)))
            rw [← setT_next T (a - f) j true (by rw [HTL.out]; omega), show f + (a - f + j) = k by omega] at hp
            have HP := Lib.hid hp
            have HJ := Lib.hid hk
            clear hp hat hnh hold hjl hk
            go_wp2_with (at_mapUpdate; refine wpList_mapUpdate_own _ rfl _ _ _ 32 rfl 3 3 lawInt Try.underlying32 _ w2.heap.size (cnt + j) _ rfl HOM4.out (by unfold maxLen; omega) _ _ _ rfl rfl hkey _ [] (plainElem_int Try.underlying3 (WalkArith.wf_i64 (by omega))) ?_; intro wn hown1 hgrow1)
            have hB5 : Below w1.heap.size w1 wn := HB4.out.grown hgrow1 hs4 (fun j hj => by cases hj; exact hs2)
            exact ⟨⟨j + 1, _, by omega, by rw [← Nat.add_assoc, HJ.out]; go_num, HEM4.out.turned HOM4.out hgrow1, hown1, HP.out, hB5⟩, by have := HJ.out; simp [intOf]; omega⟩
          · obtain rfl : j = m' := by omega
            have e1 : decide ((k : Int) < (a : Int) + (j : Int)) = false := decide_eq_false (by omega)
            have HJ := Lib.hid hk
            clear hk
            by_cases h3 : i % 3 = 2
            · have e3 : ((i : Int) % 3 == 2) = true := by rw [beq_iff_eq]; omega
              obtain ⟨q1, q2, q3⟩ := HK8.out.small (by rw [setT_len, HTL.out]; omega)
              have hgv := Give_c w1.heap.size bx f (f + n) L a j wr HEM4.out hs4 HK8.out.1 q1 (by omega) (by omega) (by omega)
              rw [HK9.out] at hgv
              have HGV := Lib.hid hgv
              clear hgv q1 q2 q3
              go_wp2_with fail
              refine HGV.out.mono ?_
              rintro e w5 ⟨rfl, hem5, hg5⟩
              have HEM5 := Lib.hid hem5
              have HOM5 := Lib.hid (HOM4.out.gr hg5 (HEM4.out.neB HOM4.out))
              have HB5 := Lib.hid (HB4.out.trans (hg5.below hs4 (fun x hx => by rw [hx]; exact hbx)))
              have HL5 := Lib.hid (show setT (setT T (a - f) j true) (a - f) 0 false = setT T (a - f) j true from setT_none _ _ _)
              clear hem5 hg5
              go_wp2_with fail
              go_loopw [17] (fun vk W => ∃ (q : Nat) (D : DataW Unit), q ≤ j ∧ vk = .int .i64 ((a + q : Nat) : Int) ∧ EM W w1.heap.size bx f (f + n) l ∧ OM W w2.heap.size (cnt + j) D ∧ Tied D f (setT (setT T (a - f) j true) (a - f) q false) ∧ Below w1.heap.size w1 W) (fun vk _ => a + j - (intOf vk).toNat)
              case atStart => exact ⟨0, D4, by omega, rfl, HEM5.out, HOM5.out, by rw [HL5.out]; exact HTI4.out, HB5.out⟩
              case round =>
                obtain ⟨q, D6, hq, rfl, hem6, hom6, hti6, hB6⟩ := hrel
                have HEM6 := Lib.hid hem6
                have HOM6 := Lib.hid hom6
                have HTI6 := Lib.hid hti6
                have HB6 := Lib.hid hB6
                have hs6 := hB6.size
                have htd := World.ownsMap.tidy hom6 lawInt
                have HTD6 := Lib.hid htd
                clear hem6 hom6 hti6 hB6 htd
                obtain ⟨r, hr⟩ : ∃ r, a + q = r := ⟨_, rfl⟩
                rw [hr]
                have ra : a ≤ r := by omega
                have rb : r ≤ a + j := by omega
                by_cases hqj : q < j
                · have g1 : decide ((r : Int) < (a : Int) + (j : Int)) = true := decide_eq_true (by omega)
                  have hwf : (Lit.int .i64 (r : Int)).wf = true := WalkArith.wf_i64 (by omega)
                  have hkey := Maps.keyOf_int_mk Try.underlying3 hwf
                  have hjl : a - f + q < (setT (setT T (a - f) j true) (a - f) q false).length := by rw [setT_len, setT_len, HTL.out]; omega
                  have hold : (setT (setT T (a - f) j true) (a - f) q false).getD (a - f + q) true = true := by
                    rw [setT_get _ _ _ _ _ (by rw [setT_len, HTL.out]; omega), if_neg (by omega), setT_get _ _ _ _ _ (by rw [HTL.out]; omega), if_pos (by omega)]
                  have hp := HTI6.out.del HTD6.out (a - f + q) hjl hold
                  rw [← setT_next _ (a - f) q false (by rw [setT_len, HTL.out]; omega), show f + (a - f + q) = r by omega] at hp
                  have HP := Lib.hid hp
                  have HR6 := Lib.hid hr
                  clear hp hold hjl hr
                  go_wp2_with (at_delete; refine wpList_delete_own _ rfl _ _ 32 3 rfl 3 lawInt Try.underlying32 _ w2.heap.size (cnt + j) _ rfl HOM6.out _ _ rfl hkey ?_; intro wn hown1 hturn1)
                  have hgrow1 := hturn1.grown
                  have hB7 : Below w1.heap.size w1 wn := HB6.out.grown hgrow1 hs6 (fun j hj => by cases hj; exact hs2)
                  exact ⟨⟨q + 1, _, by omega, by rw [← Nat.add_assoc, HR6.out]; go_num, HEM6.out.turned HOM6.out hgrow1, hown1, HP.out, hB7⟩, by have := HR6.out; simp [intOf]; omega⟩
                · obtain rfl : q = j := by omega
                  have g1 : decide ((r : Int) < (a : Int) + (q : Int)) = false := decide_eq_false (by omega)
                  have HUN := Lib.hid (setT_undo T (a - f) q HFR.out)
                  have HTI7 := HTI6.out
                  rw [HUN.out] at HTI7
                  have HTI8 := Lib.hid HTI7
                  clear HTI7 hr
                  go_wp2_with fail
                  exact ⟨⟨i + 1, T, l, D6, cnt + q, by omega, by omega, by go_num, HTL.out, HREL.out, HEM6.out, HOM6.out, by omega, HTI8.out, HB6.out⟩, by simp [intOf]; omega⟩
            · have e3 : ((i : Int) % 3 == 2) = false := by rw [beq_eq_false_iff_ne]; omega
              have HTL2 := Lib.hid (show (setT T (a - f) j true).length = n by rw [setT_len]; exact HTL.out)
              go_wp2_with fail
              exact ⟨⟨i + 1, setT T (a - f) j true, L, D4, cnt + j, by omega, by omega, by go_num, HTL2.out, HK8.out, HEM4.out, HOM4.out, by omega, HTI4.out, HB4.out⟩, by simp [intOf]; omega⟩
    · by_cases hlt : i < len
      · have d1 : decide ((i : Int) < len) = true := decide_eq_true (by omega)
        have d2 : decide ((i : Int) < 80) = false := decide_eq_false (by omega)
        clear hgo
        go_wp2_with fail
        refine (live_c _).mono ?_
        rintro e w6 ⟨rfl, hb6⟩
        have HEM6 := Lib.hid (HEM2.out.below hb6)
        have HOM6 := Lib.hid (HOM2.out.below hb6)
        have HB6 := Lib.hid (HB.out.trans (hb6.mono hsz))
        have hs6 := HB6.out.size
        clear hb6
        go_wp2_with fail
        have hfr := Free_c (.pointer (some ⟨bx, 0, none⟩)) l w6 (Runs_c w1.heap.size bx f (f + n) l _ (HEM6.out.below ((Below.refl _ _).alloc (Nat.le_refl _) _)) (by omega)) HSM.out.2.1 (by omega)
        rw [HREL.out.sum] at hfr
        have hsz2 := HTI2.out.2
        have htot := count_both T
        rw [HTL.out] at htot
        obtain ⟨S, hS⟩ : ∃ S, T.countP (fun b => !b) = S := ⟨_, rfl⟩
        obtain ⟨Z, hZ⟩ : ∃ Z, Maps.size D = Z := ⟨_, rfl⟩
        rw [hS] at hfr htot
        rw [← hsz2, hZ] at htot
        refine hfr.mono ?_
        clear hfr
        rintro e w7 ⟨rfl, hb7⟩
        have hom7 := HOM6.out.below hb7
        have hlen : ∀ ty, (Builtin.len_ #[32] ty #[.map (some w2.heap.size)]).run Try.prog w7 = .ok (.int .i64 (Z : Int)) w7 := fun ty => by rw [← hZ]; exact World.ownsMap.len hom7 Try.underlying32 ty
        have HB7 := Lib.hid (HB6.out.trans (hb7.mono hs6))
        have z1 : (S : Int) = (n : Int) - (Z : Int) := by omega
        clear hb7 hom7 hS hZ hsz2 htot
        go_wp2_with fail
        go_ret
        exact ⟨by simp; omega, HB7.out⟩
      · have d1 : decide ((i : Int) < len) = false := decide_eq_false (by omega)
        clear hgo
        go_wp2_with fail
        refine (live_c _).mono ?_
        rintro e w6 ⟨rfl, hb6⟩
        have HEM6 := Lib.hid (HEM2.out.below hb6)
        have HOM6 := Lib.hid (HOM2.out.below hb6)
        have HB6 := Lib.hid (HB.out.trans (hb6.mono hsz))
        have hs6 := HB6.out.size
        clear hb6
        go_wp2_with fail
        have hfr := Free_c (.pointer (some ⟨bx, 0, none⟩)) l w6 (Runs_c w1.heap.size bx f (f + n) l _ (HEM6.out.below ((Below.refl _ _).alloc (Nat.le_refl _) _)) (by omega)) HSM.out.2.1 (by omega)
        rw [HREL.out.sum] at hfr
        have hsz2 := HTI2.out.2
        have htot := count_both T
        rw [HTL.out] at htot
        obtain ⟨S, hS⟩ : ∃ S, T.countP (fun b => !b) = S := ⟨_, rfl⟩
        obtain ⟨Z, hZ⟩ : ∃ Z, Maps.size D = Z := ⟨_, rfl⟩
        rw [hS] at hfr htot
        rw [← hsz2, hZ] at htot
        refine hfr.mono ?_
        clear hfr
        rintro e w7 ⟨rfl, hb7⟩
        have hom7 := HOM6.out.below hb7
        have hlen : ∀ ty, (Builtin.len_ #[32] ty #[.map (some w2.heap.size)]).run Try.prog w7 = .ok (.int .i64 (Z : Int)) w7 := fun ty => by rw [← hZ]; exact World.ownsMap.len hom7 Try.underlying32 ty
        have HB7 := Lib.hid (HB6.out.trans (hb7.mono hs6))
        have z1 : (S : Int) = (n : Int) - (Z : Int) := by omega
        clear hb7 hom7 hS hZ hsz2 htot
        go_wp2_with fail
        go_ret
        exact ⟨by simp; omega, HB7.out⟩
end Go.Proofs.Ytdfgaomlahpblaa.F
