/- What is wrong with shards, by the document; are shards the same; few. -/
import Derived.Test.YtdmfecaejdiihaaPr2
set_option linter.unusedVariables false
set_option linter.unusedSimpArgs false
namespace Go.Proofs.Ytdmfecaejdiihaa.F
open Go.RowKit Go.Proofs.YtdmfecaejdiihaaW.PrintWords

theorem wrongV_zero {l : List Nat} (h : ∀ a ∈ l, ∀ b ∈ l, a = b) : wrongV l = 0 := by
  cases l with
  | nil => rfl
  | cons n l => exact if_pos (fun m hm => h m (by simp [hm]) n (by simp))
theorem wrongV_four {l : List Nat} {a b : Nat} (ha : a ∈ l) (hb : b ∈ l) (h : a ≠ b) : wrongV l = 4 := by
  cases l with
  | nil => simp at ha
  | cons n l =>
    refine if_neg (fun hh => h ?_)
    have e : ∀ x ∈ n :: l, x = n := fun x hx => by
      rcases List.mem_cons.1 hx with rfl | hx
      · rfl
      · exact hh x hx
    rw [e a ha, e b hb]
theorem held_mem {sv : List SD} {i : Nat} (h : i < sv.length) (hs : sv[i].1.isSome = true) : sv[i].2.1 ∈ heldLens sv :=
  List.mem_map.2 ⟨sv[i], List.mem_filter.2 ⟨List.getElem_mem h, hs⟩, rfl⟩
theorem held_of {sv : List SD} {a : Nat} (h : a ∈ heldLens sv) : ∃ i, ∃ hi : i < sv.length, sv[i].1.isSome = true ∧ sv[i].2.1 = a := by
  obtain ⟨x, hx, rfl⟩ := List.mem_map.1 h
  obtain ⟨h1, h2⟩ := List.mem_filter.1 hx
  obtain ⟨i, hi, rfl⟩ := List.getElem_of_mem h1
  exact ⟨i, hi, h2, rfl⟩
def PairsTo (sv : List SD) (i : Nat) : Prop := ∀ p q (hp : p < sv.length) (hq : q < sv.length), p < i → q < p → sv[p].1.isSome = true → sv[q].1.isSome = true → sv[p].2.1 = sv[q].2.1
theorem pairs_all {sv : List SD} (h : PairsTo sv sv.length) : wrongV (heldLens sv) = 0 := wrongV_zero (fun a ha b hb => by
  obtain ⟨i, hi, h1, rfl⟩ := held_of ha
  obtain ⟨j, hj, h2, rfl⟩ := held_of hb
  rcases Nat.lt_trichotomy i j with hlt | heq | hgt
  · exact (h j i hj hi hj hlt h2 h1).symm
  · subst heq; rfl
  · exact h i j hi hj hi hgt h1 h2)

set_option maxRecDepth 20000 in
set_option maxHeartbeats 8000000 in
theorem Wrong_r (A : Option Addr) (c : Nat) (sv : List SD) (hsv : ∀ x ∈ sv, x.2.1 ≤ 4096) (w : World) (hI : SV w A sv) :
    Calls Try.prog 20 #[.slice A sv.length c] w fun e w' => e = .returned (.int .i64 (wrongV (heldLens sv))) ∧ Below w.heap.size w w' := by
  have hmx : (sv.length : Int) ≤ 9223372036854775807 := by have := hI.1; omega
  have qN : ∀ (w : World) (a : Option Addr) (n c : Nat), Sem.run Try.prog (binOp BinOp.neq 29 (.slice a n c) (.slice none 0 0)) w = Result.ok (.bool !a.isNone) w := fun w a n c => Go.run_neq_slice_nil_any w 29 5 a n c 0 0 Try.underlying29
  obtain ⟨er, her⟩ : ∃ er, wrongV (heldLens sv) = er := ⟨_, rfl⟩
  rw [her]
  have HER := Lib.hid her
  have HI := Lib.hid hI
  have HSV := Lib.hid hsv
  clear her hI hsv
  go_enter Try.func20, Try.ntmps20
  go_wp2_with fail
  go_loop [3] (fun vi => ∃ i : Nat, i ≤ sv.length ∧ vi = .int .i64 i) (fun vi => sv.length - (intOf vi).toNat)
  case atStart => exact ⟨0, by omega, rfl⟩
  case round =>
    obtain ⟨i, hi, rfl⟩ := hrel
    by_cases hlt : i < sv.length
    · have hd : decide ((i : Int) < sv.length) = true := decide_eq_true (by omega)
      obtain ⟨ad, e, _, hcc⟩ := HI.out.2 (by omega)
      subst e
      have hci := hcc i hlt
      have hle := HSV.out _ (List.getElem_mem hlt)
      obtain ⟨⟨xa, xn, xc⟩, hx⟩ : ∃ x, sv[i] = x := ⟨_, rfl⟩
      rw [hx] at hci hle
      dsimp only at hci hle
      have d2 : decide ((4096 : Int) < xn) = false := decide_eq_false (by omega)
      have i0 : (0 : Int) ≤ (i : Int) := by omega
      have i1 : (i : Int) < (sv.length : Int) := by omega
      clear hcc hx
      go_wp2_with fail
      go_round
      case rel => exact ⟨i + 1, by omega, by go_num⟩
      case measure => simp [intOf]; omega
    · have hd : decide ((i : Int) < sv.length) = false := decide_eq_false (by omega)
      obtain ⟨iz, hiz⟩ : ∃ iz, i = iz := ⟨_, rfl⟩
      go_wp2_with fail
      go_loopw [4] (fun vi W => ∃ i : Nat, i ≤ sv.length ∧ vi = .int .i64 i ∧ PairsTo sv i ∧ ∃ n, W = w.drewN n) (fun vi _ => sv.length - (intOf vi).toNat)
      case atStart => exact ⟨0, by omega, rfl, fun _ _ _ _ h => by omega, 0, rfl⟩
      case round =>
        obtain ⟨i, hi, rfl, hpt, nw, hnw⟩ := hrel
        subst hnw
        have HPT := Lib.hid hpt
        clear hpt
        by_cases hlt : i < sv.length
        · have hd2 : decide ((i : Int) < sv.length) = true := decide_eq_true (by omega)
          go_wp2_with fail
          go_loopw [5] (fun vj W => ∃ j : Nat, j ≤ i ∧ vj = .int .i64 j ∧ (∀ q (hq : q < sv.length), q < j → sv[i].1.isSome = true → sv[q].1.isSome = true → sv[i].2.1 = sv[q].2.1) ∧ ∃ n, W = w.drewN n) (fun vj _ => i - (intOf vj).toNat)
          case atStart => exact ⟨0, by omega, rfl, fun _ _ h => by omega, nw, rfl⟩
          case round =>
            obtain ⟨j, hj, rfl, hpj, nj, hnj⟩ := hrel
            subst hnj
            have HPJ := Lib.hid hpj
            clear hpj
            by_cases hji : j < i
            · have hd3 : decide ((j : Int) < i) = true := decide_eq_true (by omega)
              obtain ⟨ad, e, _, hcc⟩ := HI.out.2 (by omega)
              subst e
              have hjl : j < sv.length := by omega
              have hci := hcc i hlt
              have hcj := hcc j hjl
              have hmi := fun h => held_mem (sv := sv) (i := i) hlt h
              have hmj := fun h => held_mem (sv := sv) (i := j) hjl h
              have hstep : (sv[i].1.isSome = true → sv[j].1.isSome = true → sv[i].2.1 = sv[j].2.1) → ∀ q (hq : q < sv.length), q < j + 1 → sv[i].1.isSome = true → sv[q].1.isSome = true → sv[i].2.1 = sv[q].2.1 := fun h q hq hqj h1 h2 => by
                by_cases hqq : q = j
                · subst hqq; exact h h1 h2
                · exact HPJ.out q hq (by omega) h1 h2
              have HST := Lib.hid hstep
              obtain ⟨⟨xa, xn, xc⟩, hx⟩ : ∃ x, sv[i] = x := ⟨_, rfl⟩
              obtain ⟨⟨ya, yn, yc⟩, hy⟩ : ∃ x, sv[j] = x := ⟨_, rfl⟩
              rw [hx] at hci hmi
              rw [hy] at hcj hmj
              dsimp only at hci hcj hmi hmj
              have HX := Lib.hid hx
              have HY := Lib.hid hy
              have HMI := Lib.hid hmi
              have HMJ := Lib.hid hmj
              have i0 : (0 : Int) ≤ (i : Int) := by omega
              have i1 : (i : Int) < (sv.length : Int) := by omega
              have j0 : (0 : Int) ≤ (j : Int) := by omega
              have j1 : (j : Int) < (sv.length : Int) := by omega
              clear hcc hstep hx hy hmi hmj
              cases xa with
              | none =>
                go_wp2_with fail
                go_quiet (fail)
                go_wp2_with fail
                exact ⟨⟨j + 1, by omega, by go_num, HST.out (fun h _ => by rw [HX.out] at h; simp at h), _, rfl⟩, by simp [intOf]; omega⟩
              | some xad =>
                cases ya with
                | none =>
                  go_wp2_with fail
                  go_quiet (fail)
                  go_wp2_with fail
                  exact ⟨⟨j + 1, by omega, by go_num, HST.out (fun _ h => by rw [HY.out] at h; simp at h), _, rfl⟩, by simp [intOf]; omega⟩
                | some yad =>
                  by_cases hxy : xn = yn
                  · have dxy : ((xn : Int) != yn) = false := by simp [hxy]
                    have HXY := Lib.hid hxy
                    clear hxy
                    go_wp2_with fail
                    go_quiet (fail)
                    go_wp2_with fail
                    exact ⟨⟨j + 1, by omega, by go_num, HST.out (fun _ _ => by rw [HX.out, HY.out]; exact HXY.out), _, rfl⟩, by simp [intOf]; omega⟩
                  · have dxy : ((xn : Int) != yn) = true := by simp; omega
                    have hfour : er = 4 := by rw [← HER.out]; exact wrongV_four (HMI.out rfl) (HMJ.out rfl) hxy
                    have H4 := Lib.hid hfour
                    clear hxy hfour
                    go_wp2_with fail
                    go_quiet (fail)
                    go_wp2_with fail
                    go_ret
                    refine ⟨?_, pw_below_drewN (pw_below_drewN (Below.refl _ _) _) _⟩
                    rw [H4.out]
                    rfl
            · have hd3 : decide ((j : Int) < i) = false := decide_eq_false (by omega)
              obtain rfl : j = i := by omega
              have hnext : PairsTo sv (j + 1) := fun p q hp hq hpi hqp h1 h2 => by
                by_cases hpp : p = j
                · subst hpp; exact HPJ.out q hq hqp h1 h2
                · exact HPT.out p q hp hq (by omega) hqp h1 h2
              have HNX := Lib.hid hnext
              clear hnext
              go_wp2_with fail
              exact ⟨⟨j + 1, by omega, by go_num, HNX.out, _, rfl⟩, by simp [intOf]; omega⟩
        · have hd2 : decide ((i : Int) < sv.length) = false := decide_eq_false (by omega)
          have hz : er = 0 := by
            obtain rfl : i = sv.length := by omega
            rw [← HER.out]
            exact pairs_all HPT.out
          have HZ := Lib.hid hz
          clear hz
          go_wp2_with fail
          go_ret
          refine ⟨?_, pw_below_drewN (Below.refl _ _) _⟩
          rw [HZ.out]
          rfl
theorem RR.drewN {W : World} {A : Option Addr} {css : List (List Nat)} (h : RR W A css) (n : Nat) : RR (W.drewN n) A css := h.below (pw_below_drewN (Below.refl _ _) n)
set_option maxRecDepth 20000 in
theorem Same_c (A A' : Option Addr) (c c' : Nat) (css : List (List Nat)) (W : World) (h1 : RR W A css) (h2 : RR W A' css) :
    Calls Try.prog 11 #[.slice A css.length c, .slice A' css.length c'] W fun e w' => e = .returned (.bool true) ∧ ∃ n, w' = W.drewN n := by
  have hm := h1.max
  have hne : ((css.length : Int) != css.length) = false := by simp
  go_enter Try.func11, Try.ntmps11
  go_wp2_with fail
  go_loopw [5] (fun vk W' => ∃ k : Nat, k ≤ css.length ∧ vk = .int .i64 k ∧ Drawn0 W W') (fun vk _ => css.length - (intOf vk).toNat)
  case atStart => exact ⟨0, by omega, rfl, Drawn0.refl _⟩
  case round =>
    obtain ⟨k, hk, rfl, hW⟩ := hrel
    by_cases hlt : k < css.length
    · have hd : decide ((k : Int) < css.length) = true := by simp; omega
      have g1 := h1.below hW.below
      have g2 := h2.below hW.below
      have i0 : (0 : Int) ≤ (k : Int) := by omega
      have i1 : (k : Int) < (css.length : Int) := by omega
      obtain ⟨ad, B1, b1, e, q1, l1, r1⟩ := g1.at k hlt
      subst e
      obtain ⟨bd, B2, b2, e, q2, l2, r2⟩ := g2.at k hlt
      subst e
      obtain ⟨xs, hxs⟩ : ∃ xs, css[k] = xs := ⟨_, rfl⟩
      rw [hxs] at q1 q2 r1 r2
      clear hxs l1 l2
      have q1' : ∀ n, (wr.drewN n).cell? (ad.add k) = some (.slice B1 xs.length b1) := fun _ => q1
      have q2' : ∀ n, (wr.drewN n).cell? (bd.add k) = some (.slice B2 xs.length b2) := fun _ => q2
      have s1 := fun n => RN.string (c := b1) Try.underlying29 Try.underlying5 Try.underlying9 (r1.drewN n)
      have s2 := fun n => RN.string (c := b2) Try.underlying29 Try.underlying5 Try.underlying9 (r2.drewN n)
      clear q1 q2 r1 r2 g1 g2
      go_wp2_with fail
      go_quiet (fail)
      go_wp2_with fail
      exact ⟨⟨k + 1, by omega, by go_num, hW.step _⟩, by simp [intOf]; omega⟩
    · have hd : decide ((k : Int) < css.length) = false := by simp; omega
      go_wp2_with fail
      go_ret
      exact ⟨rfl, hW.out⟩
end Go.Proofs.Ytdmfecaejdiihaa.F
