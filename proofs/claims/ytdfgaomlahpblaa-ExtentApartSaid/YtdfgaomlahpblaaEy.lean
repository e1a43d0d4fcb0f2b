/- Do both maps tell the same; what must be whatever is asked. -/
import Derived.Test.YtdfgaomlahpblaaEx
set_option linter.unusedVariables false
set_option linter.unusedSimpArgs false
namespace Go.Proofs.Ytdfgaomlahpblaa.F
open Go.RowKit Go.Proofs.YtdfgaomlahpblaaW.PrintWords

theorem bounds_c (m0 m1 : Nat) (w : World) (h0 : m0 < 256) (h1 : m1 < 256) : Calls Try.prog 12 #[.int .u8 m0, .int .u8 m1] w fun e w' => e = .returned (.tuple #[.int .i64 (m0 % 41 : Nat), .int .i64 ((m0 % 41 + m1 % 61 : Nat) : Int)]) ∧ w' = w := by
  have k0 : (m0 : Int) ≤ 255 := by omega
  have k1 : (m1 : Int) ≤ 255 := by omega
  have k2 : (m0 : Int) % 41 ≤ 40 := by omega
  have k3 : (m1 : Int) % 61 ≤ 60 := by omega
  have k4 : (0 : Int) ≤ (m0 : Int) % 41 := by omega
  have k5 : (0 : Int) ≤ (m1 : Int) % 61 := by omega
  go_enter Try.func12, Try.ntmps12
  go_wp2_with fail
  go_ret2
  exact ⟨by simp, rfl⟩
theorem sumN_take (l : List Rn) (i : Nat) (h : i < l.length) : sumN (l.take (i + 1)) = sumN (l.take i) + l[i].2 := by
  rw [List.take_succ_eq_append_getElem h, sumN_append]
  simp [sumN]
theorem mostN_take (l : List Rn) (i : Nat) (h : i < l.length) : mostN (l.take (i + 1)) = max (mostN (l.take i)) l[i].2 := by
  unfold mostN
  rw [List.take_succ_eq_append_getElem h, List.foldl_append]
  rfl
set_option maxRecDepth 20000 in
set_option maxHeartbeats 8000000 in
theorem alike_c (base bx byy f : Nat) (T : List Bool) (l : List Rn) (w : World) (h : XY w base bx byy f T l) (hft : f + T.length ≤ 4096) :
    Calls Try.prog 18 #[.pointer (some ⟨bx, 0, none⟩), .pointer (some ⟨byy, 0, none⟩)] w fun e w' => e = .returned (.bool true) ∧ Below w.heap.size w w' := by
  obtain ⟨hx, hy, hrel, hbs⟩ := h
  obtain ⟨hr1, hr2, hr3⟩ := hrel.small hft
  have hrr := Runs_r byy f T w hy (by omega) (by omega)
  rw [← hrel.eq] at hrr
  have hsm := fun i => sum_most_le (l.take i) (fun r hr => hr2 r (List.mem_of_mem_take hr))
  have HRR := Lib.hid hrr
  have HX := Lib.hid hx
  have HR2 := Lib.hid hr2
  have HSM := Lib.hid hsm
  have n0 : (l.length : Int) ≤ 4096 := by omega
  clear hx hy hrel hr1 hr2 hrr hsm
  go_enter Try.func18, Try.ntmps18
  go_wp2_with fail
  refine HRR.out.mono ?_
  rintro e w2 ⟨v2, rfl, ho2, hb2⟩
  obtain ⟨A2, c2, e2, _, hru2⟩ := ho2.reads
  subst e2
  have HRU := Lib.hid hru2
  have HX2 := Lib.hid (HX.out.below hb2)
  have HB2 := Lib.hid hb2
  have hs2 := hb2.size
  clear ho2 hru2 hb2
  go_wp2_with fail
  go_loop [6, 7, 8] (fun vf vm vi => ∃ i : Nat, i ≤ l.length ∧ vi = .int .i64 i ∧ vf = .int .i64 (sumN (l.take i) : Nat) ∧ vm = .int .i64 (mostN (l.take i) : Nat)) (fun _ _ vi => l.length - (intOf vi).toNat)
  case atStart => exact ⟨0, by omega, rfl, rfl, rfl⟩
  case round =>
    obtain ⟨i, hi, rfl, rfl, rfl⟩ := hrel
    by_cases hlt : i < l.length
    · have hd : decide ((i : Int) < l.length) = true := decide_eq_true (by omega)
      obtain ⟨g, o, e, _, a1, a2⟩ := HRU.out.at i hlt
      subst e
      have i0 : (0 : Int) ≤ (i : Int) := by omega
      have i1 : (i : Int) < (l.length : Int) := by omega
      have hst := sumN_take l i hlt
      have hmt := mostN_take l i hlt
      have hq := HR2.out _ (List.getElem_mem hlt)
      obtain ⟨hs, hm⟩ := HSM.out i
      rw [List.length_take, Nat.min_eq_left hi] at hs
      obtain ⟨q, hqq⟩ : ∃ q, l[i].2 = q := ⟨_, rfl⟩
      rw [hqq] at a2 hst hmt hq
      obtain ⟨S, hS⟩ : ∃ S, sumN (l.take i) = S := ⟨_, rfl⟩
      obtain ⟨M, hM⟩ : ∃ M, mostN (l.take i) = M := ⟨_, rfl⟩
      rw [hS] at hst hs ⊢
      rw [hM] at hmt hm ⊢
      have s1 : (S : Int) + q ≤ 100000000 := by omega
      have s2 : (0 : Int) ≤ (S : Int) + q := by omega
      have HST := Lib.hid hst
      have HMT := Lib.hid hmt
      clear hst hmt hS hM hqq hs
      by_cases hmq : M < q
      · have d1 : decide ((M : Int) < q) = true := decide_eq_true (by omega)
        go_wp2_with fail
        exact ⟨⟨i + 1, by omega, by go_num, by rw [HST.out]; go_num, by rw [HMT.out, Nat.max_eq_right (by omega)]⟩, by simp [intOf]; omega⟩
      · have d1 : decide ((M : Int) < q) = false := decide_eq_false (by omega)
        go_wp2_with fail
        exact ⟨⟨i + 1, by omega, by go_num, by rw [HST.out]; go_num, by rw [HMT.out, Nat.max_eq_left (by omega)]⟩, by simp [intOf]; omega⟩
    · have hd : decide ((i : Int) < l.length) = false := decide_eq_false (by omega)
      obtain rfl : i = l.length := by omega
      rw [List.take_length]
      obtain ⟨S, hS⟩ : ∃ S, sumN l = S := ⟨_, rfl⟩
      obtain ⟨M, hM⟩ : ∃ M, mostN l = M := ⟨_, rfl⟩
      rw [hS, hM]
      have HS := Lib.hid hS
      have HM := Lib.hid hM
      clear hS hM
      go_wp2_with fail
      refine (Runs_c base bx f (f + T.length) l w2 HX2.out (by omega)).mono ?_
      rintro e w3 ⟨v3, rfl, ho3, hb3⟩
      obtain ⟨A3, c3, e3, _, hru3⟩ := ho3.reads
      subst e3
      have HRU3 := Lib.hid hru3
      have HRU2 := Lib.hid (HRU.out.below hb3)
      have HX3 := Lib.hid (HX2.out.below hb3)
      have HB3 := Lib.hid (HB2.out.trans (hb3.mono hs2))
      have hs3 := HB3.out.size
      clear ho3 hru3 hb3
      go_wp2_with fail
      have hsame := Same_c A3 A2 c3 c2 l l w3 HRU3.out HRU2.out
      simp only [decide_true] at hsame
      refine hsame.mono ?_
      clear hsame
      rintro e w4 ⟨rfl, hb4⟩
      have HX4 := Lib.hid (HX3.out.below hb4)
      have HB4 := Lib.hid (HB3.out.trans (hb4.mono hs3))
      have hs4 := HB4.out.size
      clear hb4
      go_wp2_with fail
      have hfree := Free_c (.pointer (some ⟨bx, 0, none⟩)) l w4 (Runs_c base bx f (f + T.length) l _ (HX4.out.below ((Below.refl _ _).alloc (Nat.le_refl _) _)) (by omega)) HR2.out (by omega)
      rw [HS.out] at hfree
      refine hfree.mono ?_
      clear hfree
      rintro e w5 ⟨rfl, hb5⟩
      have HX5 := Lib.hid (HX4.out.below hb5)
      have HB5 := Lib.hid (HB4.out.trans (hb5.mono hs4))
      have hs5 := HB5.out.size
      clear hb5
      go_wp2_with fail
      have hmost := Most_c (.pointer (some ⟨bx, 0, none⟩)) l w5 (Runs_c base bx f (f + T.length) l _ (HX5.out.below ((Below.refl _ _).alloc (Nat.le_refl _) _)) (by omega)) HR2.out (by omega)
      rw [HM.out] at hmost
      refine hmost.mono ?_
      clear hmost
      rintro e w6 ⟨rfl, hb6⟩
      have HB6 := Lib.hid (HB5.out.trans (hb6.mono hs5))
      clear hb6
      go_wp2_with fail
      go_ret
      exact ⟨by simp, HB6.out⟩
end Go.Proofs.Ytdfgaomlahpblaa.F
