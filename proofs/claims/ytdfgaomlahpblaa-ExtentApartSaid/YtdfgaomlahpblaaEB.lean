/- Taken and given again, the map is as it was. -/
import Derived.Test.YtdfgaomlahpblaaEA
set_option linter.unusedVariables false
set_option linter.unusedSimpArgs false
namespace Go.Proofs.Ytdfgaomlahpblaa.F
open Go.RowKit Go.Proofs.YtdfgaomlahpblaaW.PrintWords

theorem OR.gr {W W' : World} {base b : Nat} {v : Value} {l : List Rn} (h : OR W base v l) (hb : b < base) (hg : Gr (fun k => k = b) W W') : OR W' base v l :=
  h.move fun k hk => by
    obtain ⟨q1, q2, _⟩ := h.typed k hk
    exact hg.block k q2 (by omega)
theorem OR.ru {W : World} {base n c : Nat} {A : Option Addr} {l : List Rn} (h : OR W base (.slice A n c) l) : RU W A l := by
  obtain ⟨A', c', e, _, hr⟩ := h.reads
  cases e
  exact hr
/-- What taking a number of sectors comes to. -/
theorem take_parts {f : Nat} {T : List Bool} {l : List Rn} (h : Rel f T l) (n : Int) :
    (n < 1 ∧ takeF l n = (0, 2, l)) ∨ (¬ n < 1 ∧ takeF l n = (0, 8, l) ∧ (mostN l : Int) < n) ∨
    ∃ i m a : Nat, n = m ∧ takeF l n = ((a : Int), 0, cutL l i a m) ∧ 0 < m ∧ i < l.length ∧ f ≤ a ∧ a + m ≤ f + T.length ∧ (∀ j (hj : j < l.length), l[j].1 < a → l[j].2 < m) ∧
      Rel f (setT T (a - f) m true) (cutL l i a m) ∧ giveF f (f + T.length) (cutL l i a m) a m = (0, l) := by
  by_cases h1 : n < 1
  · exact .inl ⟨h1, by unfold takeF; rw [if_pos h1]⟩
  · obtain ⟨m, rfl⟩ : ∃ m : Nat, n = m := ⟨n.toNat, by omega⟩
    refine .inr ?_
    unfold takeF
    rw [if_neg h1]
    cases hf : l.findIdx? (fun r => decide ((m : Int) ≤ (r.2 : Int))) with
    | none =>
      refine .inl ⟨h1, rfl, ?_⟩
      have := List.findIdx?_eq_none_iff.1 hf
      have hm := (mostN_le l 0 m).2 ⟨by omega, fun r hr => by have := of_decide_eq_false (this r hr); omega⟩
      unfold mostN
      omega
    | some i =>
      refine .inr ?_
      obtain ⟨hi, hp, hmin⟩ := List.findIdx?_eq_some_iff_getElem.1 hf
      have hp := of_decide_eq_true hp
      have hgd : l.getD i (0, 0) = l[i] := by simp [List.getD_eq_getElem?_getD, hi]
      have hbd := h.bd _ (List.getElem_mem hi)
      have hm0 : 0 < m := by omega
      obtain ⟨a, ha⟩ : ∃ a, l[i].1 = a := ⟨_, rfl⟩
      have g1 : (l.getD i (0, 0)).1 ≤ a := by rw [hgd]; omega
      have g2 : a + m ≤ (l.getD i (0, 0)).1 + (l.getD i (0, 0)).2 := by rw [hgd]; omega
      have hcut := h.cut i a m hi g1 g2 hm0
      obtain ⟨c1, c2⟩ := cut_ok i a m h.1 hi g1 g2 hm0
      refine ⟨i, m, a, rfl, ?_, hm0, hi, by omega, by omega, fun j hj hlt => ?_, hcut, ?_⟩
      · show (((l.getD i (0, 0)).1 : Int), (0 : Int), cutL l i (l.getD i (0, 0)).1 (m : Int).toNat) = _
        rw [hgd, ha]
        rfl
      · have hji : j < i := by
          rcases Nat.lt_trichotomy j i with hh | hh | hh
          · exact hh
          · subst hh; omega
          · have := (List.pairwise_iff_getElem.1 h.1.1) i j hi hj hh
            omega
        refine Nat.lt_of_not_le fun hh => hmin j hji (decide_eq_true ?_)
        omega
      · unfold giveF
        have hw : withinB f (f + T.length) a m = true := by unfold withinB; exact decide_eq_true (by omega)
        rw [hw, if_neg (by simp)]
        have hno : idxR (fun r => decide ((r.1 : Int) < (a : Int) + m) && decide ((a : Int) < (r.1 : Int) + r.2)) (cutL l i a m) = -1 := by
          rcases idxR_find (fun r => decide ((r.1 : Int) < (a : Int) + m) && decide ((a : Int) < (r.1 : Int) + r.2)) (cutL l i a m) with hh | ⟨k, hk, _, _, hpk⟩
          · exact hh.1
          · exfalso
            simp only [Bool.and_eq_true, decide_eq_true_eq] at hpk
            have hpos := c1.2 _ (List.getElem_mem hk)
            have := (c2 (max ((cutL l i a m)[k]).1 a)).1 ⟨_, List.getElem_mem hk, by unfold Rn.has; omega⟩
            exact this.2 (by omega)
        rw [hno, if_neg (by omega)]
        rw [show (a : Int).toNat = a from rfl, show (m : Int).toNat = m from rfl, back i a m h.1 hi g1 g2 hm0]
set_option maxRecDepth 20000 in
set_option maxHeartbeats 8000000 in
theorem ExtentBack_walk (m0 m1 : Nat) (A : Option Addr) (c : Nat) (ds : List Dd) (n : Int) (w : World) (h0 : m0 < 256) (h1 : m1 < 256) (hr : RD w A ds) :
    Calls Try.prog 6 #[.int .u8 m0, .int .u8 m1, .slice A ds.length c, .int .i64 n] w fun e w' => e = .returned (.bool true) ∧ Below w.heap.size w w' := by
  have hp := play_c m0 m1 A c ds w h0 h1 hr
  obtain ⟨f, hf⟩ : ∃ f, m0 % 41 = f := ⟨_, rfl⟩
  rw [hf] at hp
  have hf2 : f ≤ 40 := by omega
  have HP := Lib.hid hp
  have hlen : m1 % 61 ≤ 60 := by omega
  clear hp hr hf
  go_enter Try.func6, Try.ntmps6
  go_wp2_with fail
  refine HP.out.mono ?_
  rintro e w1 ⟨bx, byy, T, l, rfl, hT, hxy, hbx, hby, hb⟩
  have hft : f + T.length ≤ 4096 := by omega
  obtain ⟨hx, hy, hrel, hbs⟩ := hxy
  obtain ⟨hr1, hr2, hr3⟩ := hrel.small hft
  have HX := Lib.hid hx
  have HY := Lib.hid hy
  have HREL := Lib.hid hrel
  have HR1 := Lib.hid hr1
  have HR2 := Lib.hid hr2
  have HB := Lib.hid hb
  have hs := hb.size
  have hltx := hx.lt
  have n0 : (l.length : Int) ≤ 4096 := by omega
  clear hb hT hx hy hrel hr1 hr2 hlen
  go_wp2_with fail
  refine (Runs_c w.heap.size bx f (f + T.length) l w1 HX.out (by omega)).mono ?_
  rintro e w2 ⟨v2, rfl, ho2, hb2⟩
  obtain ⟨A2, c2, e2, _, hru2⟩ := ho2.reads
  subst e2
  have HO2 := Lib.hid ho2
  have HX2 := Lib.hid (HX.out.below hb2)
  have HY2 := Lib.hid (HY.out.below hb2)
  have HB2 := Lib.hid (HB.out.trans (hb2.mono hs))
  have hs2 := HB2.out.size
  clear ho2 hru2 hb2
  go_wp2_with fail
  have htk := Take_c w.heap.size bx f (f + T.length) l n w2 HX2.out hs2 HR1.out (by omega)
  rcases take_parts HREL.out n with ⟨k1, k2⟩ | ⟨k1, k2, k3⟩ | ⟨i, m, a, rfl, k2, k3, k4, k5, k6, k7, k8, k9⟩
  · have d1 : decide (n < 1) = true := decide_eq_true k1
    rw [k2] at htk
    refine htk.mono ?_
    clear htk k2
    rintro e w3 ⟨rfl, hem3, hg3⟩
    have HO3 := Lib.hid (HO2.out.gr hltx hg3)
    have HX3 := Lib.hid hem3
    have HB3 := Lib.hid (HB2.out.trans (hg3.below hs2 (fun x hx => by rw [hx]; exact hbx)))
    have hs3 := HB3.out.size
    clear hem3 hg3
    go_wp2_with fail
    refine (live_c _).mono ?_
    rintro e w4 ⟨rfl, hb4⟩
    have HO4 := Lib.hid (HO3.out.below hb4)
    have HX4 := Lib.hid (HX3.out.below hb4)
    have HB4 := Lib.hid (HB3.out.trans (hb4.mono hs3))
    have hs4 := HB4.out.size
    clear hb4
    go_wp2_with fail
    refine (Runs_c w.heap.size bx f (f + T.length) l w4 HX4.out (by omega)).mono ?_
    rintro e w5 ⟨v5, rfl, ho5, hb5⟩
    obtain ⟨A5, c5, e5, _, hru5⟩ := ho5.reads
    subst e5
    have HRU5 := Lib.hid hru5
    have HRU2 := Lib.hid (HO4.out.below hb5).ru
    have HB5 := Lib.hid (HB4.out.trans (hb5.mono hs4))
    have hs5 := HB5.out.size
    clear ho5 hru5 hb5
    go_wp2_with fail
    have hsame := Same_c A5 A2 c5 c2 l l w5 HRU5.out HRU2.out
    simp only [decide_true] at hsame
    refine hsame.mono ?_
    clear hsame
    rintro e w6 ⟨rfl, hb6⟩
    have HB6 := Lib.hid (HB5.out.trans (hb6.mono hs5))
    clear hb6
    go_wp2_with fail
    go_ret
    exact ⟨rfl, HB6.out⟩
  · have d1 : decide (n < 1) = false := decide_eq_false k1
    rw [k2] at htk
    refine htk.mono ?_
    clear htk k2
    rintro e w3 ⟨rfl, hem3, hg3⟩
    have HO3 := Lib.hid (HO2.out.gr hltx hg3)
    have HX3 := Lib.hid hem3
    have HB3 := Lib.hid (HB2.out.trans (hg3.below hs2 (fun x hx => by rw [hx]; exact hbx)))
    have hs3 := HB3.out.size
    clear hem3 hg3
    go_wp2_with fail
    refine (live_c _).mono ?_
    rintro e w4 ⟨rfl, hb4⟩
    have HO4 := Lib.hid (HO3.out.below hb4)
    have HX4 := Lib.hid (HX3.out.below hb4)
    have HB4 := Lib.hid (HB3.out.trans (hb4.mono hs3))
    have hs4 := HB4.out.size
    clear hb4
    go_wp2_with fail
    refine (Runs_c w.heap.size bx f (f + T.length) l w4 HX4.out (by omega)).mono ?_
    rintro e w5 ⟨v5, rfl, ho5, hb5⟩
    obtain ⟨A5, c5, e5, _, hru5⟩ := ho5.reads
    subst e5
    have HRU5 := Lib.hid hru5
    have HRU2 := Lib.hid (HO4.out.below hb5).ru
    have HX5 := Lib.hid (HX4.out.below hb5)
    have HB5 := Lib.hid (HB4.out.trans (hb5.mono hs4))
    have hs5 := HB5.out.size
    clear ho5 hru5 hb5
    go_wp2_with fail
    have hsame := Same_c A5 A2 c5 c2 l l w5 HRU5.out HRU2.out
    simp only [decide_true] at hsame
    refine hsame.mono ?_
    clear hsame
    rintro e w6 ⟨rfl, hb6⟩
    have HX6 := Lib.hid (HX5.out.below hb6)
    have HB6 := Lib.hid (HB5.out.trans (hb6.mono hs5))
    have hs6 := HB6.out.size
    clear hb6
    go_wp2_with fail
    have hmost := Most_c (.pointer (some ⟨bx, 0, none⟩)) l w6 (Runs_c w.heap.size bx f (f + T.length) l _ (HX6.out.below ((Below.refl _ _).alloc (Nat.le_refl _) _)) (by omega)) HR2.out (by omega)
    obtain ⟨M, hM⟩ : ∃ M, mostN l = M := ⟨_, rfl⟩
    rw [hM] at hmost k3
    have d2 : decide ((M : Int) < n) = true := decide_eq_true k3
    refine hmost.mono ?_
    clear hmost hM
    rintro e w7 ⟨rfl, hb7⟩
    have HB7 := Lib.hid (HB6.out.trans (hb7.mono hs6))
    clear hb7
    go_wp2_with fail
    go_ret
    exact ⟨rfl, HB7.out⟩
  · rw [k2] at htk
    refine htk.mono ?_
    clear htk k2
    rintro e w3 ⟨rfl, hem3, hg3⟩
    have HO3 := Lib.hid (HO2.out.gr hltx hg3)
    have HRU3 := Lib.hid HO3.out.ru
    have HX3 := Lib.hid hem3
    have HY3 := Lib.hid (HY2.out.other HX2.out hg3)
    have HB3 := Lib.hid (HB2.out.trans (hg3.below hs2 (fun x hx => by rw [hx]; exact hbx)))
    have hs3 := HB3.out.size
    have HK7 := Lib.hid k7
    have HK8 := Lib.hid k8
    have HK9 := Lib.hid k9
    obtain ⟨L, hL⟩ : ∃ L, cutL l i a m = L := ⟨_, rfl⟩
    rw [hL] at HX3 HK8 HK9
    have ha0 : (a : Int) ≤ 4096 := by omega
    have hm0 : (m : Int) ≤ 4096 := by omega
    clear hem3 hg3 k7 k8 k9 hL
    go_wp2_with fail
    go_loop [15] (fun vi => ∃ i : Nat, i ≤ l.length ∧ vi = .int .i64 i) (fun vi => l.length - (intOf vi).toNat)
    case atStart => exact ⟨0, by omega, rfl⟩
    case round =>
      obtain ⟨j, hj, rfl⟩ := hrel
      by_cases hlt : j < l.length
      · have hd : decide ((j : Int) < l.length) = true := decide_eq_true (by omega)
        obtain ⟨g, o, e, _, a1, a2⟩ := HRU3.out.at j hlt
        subst e
        have j0 : (0 : Int) ≤ (j : Int) := by omega
        have j1 : (j : Int) < (l.length : Int) := by omega
        have hq := HK7.out j hlt
        obtain ⟨p, hp⟩ : ∃ p, l[j].1 = p := ⟨_, rfl⟩
        obtain ⟨q, hqq⟩ : ∃ q, l[j].2 = q := ⟨_, rfl⟩
        rw [hp] at a1 hq
        rw [hqq] at a2 hq
        clear hp hqq
        by_cases hpa : p < a
        · have d1 : decide ((p : Int) < a) = true := decide_eq_true (by omega)
          have hq := hq hpa
          have d2 : decide ((m : Int) ≤ q) = false := decide_eq_false (by omega)
          go_wp2_with fail
          exact ⟨⟨j + 1, by omega, by go_num⟩, by simp [intOf]; omega⟩
        · have d1 : decide ((p : Int) < a) = false := decide_eq_false (by omega)
          clear hq
          go_wp2_with fail
          exact ⟨⟨j + 1, by omega, by go_num⟩, by simp [intOf]; omega⟩
      · have hd : decide ((j : Int) < l.length) = false := decide_eq_false (by omega)
        go_wp2_with fail
        refine (live_c _).mono ?_
        rintro e w4 ⟨rfl, hb4⟩
        have HO4 := Lib.hid (HO3.out.below hb4)
        have HX4 := Lib.hid (HX3.out.below hb4)
        have HY4 := Lib.hid (HY3.out.below hb4)
        have HB4 := Lib.hid (HB3.out.trans (hb4.mono hs3))
        have hs4 := HB4.out.size
        clear hb4
        go_wp2_with fail
        obtain ⟨q1, q2, q3⟩ := HK8.out.small (by rw [setT_len]; exact hft)
        have hgv := Give_c w.heap.size bx f (f + T.length) L a m w4 HX4.out hs4 HK8.out.1 q1 (by omega) hft (by omega)
        rw [HK9.out] at hgv
        refine hgv.mono ?_
        clear hgv q1 q2 q3
        rintro e w5 ⟨rfl, hem5, hg5⟩
        have HO5 := Lib.hid (HO4.out.gr hltx hg5)
        have HX5 := Lib.hid hem5
        have HY5 := Lib.hid (HY4.out.other HX4.out hg5)
        have HB5 := Lib.hid (HB4.out.trans (hg5.below hs4 (fun x hx => by rw [hx]; exact hbx)))
        have hs5 := HB5.out.size
        clear hem5 hg5
        go_wp2_with fail
        refine (Runs_c w.heap.size bx f (f + T.length) l w5 HX5.out (by omega)).mono ?_
        rintro e w6 ⟨v6, rfl, ho6, hb6⟩
        obtain ⟨A6, c6, e6, _, hru6⟩ := ho6.reads
        subst e6
        have HRU6 := Lib.hid hru6
        have HRU2 := Lib.hid (HO5.out.below hb6).ru
        have HX6 := Lib.hid (HX5.out.below hb6)
        have HY6 := Lib.hid (HY5.out.below hb6)
        have HB6 := Lib.hid (HB5.out.trans (hb6.mono hs5))
        have hs6 := HB6.out.size
        clear ho6 hru6 hb6
        go_wp2_with fail
        have hsame := Same_c A6 A2 c6 c2 l l w6 HRU6.out HRU2.out
        simp only [decide_true] at hsame
        refine hsame.mono ?_
        clear hsame
        rintro e w7 ⟨rfl, hb7⟩
        have HX7 := Lib.hid (HX6.out.below hb7)
        have HY7 := Lib.hid (HY6.out.below hb7)
        have HB7 := Lib.hid (HB6.out.trans (hb7.mono hs6))
        have hs7 := HB7.out.size
        clear hb7
        go_wp2_with fail
        refine (alike_c w.heap.size bx byy f T l w7 ⟨HX7.out, HY7.out, HREL.out, hs7⟩ hft).mono ?_
        rintro e w8 ⟨rfl, hb8⟩
        have HB8 := Lib.hid (HB7.out.trans (hb8.mono hs7))
        clear hb8
        go_wp2_with fail
        go_ret
        exact ⟨rfl, HB8.out⟩
end Go.Proofs.Ytdfgaomlahpblaa.F
