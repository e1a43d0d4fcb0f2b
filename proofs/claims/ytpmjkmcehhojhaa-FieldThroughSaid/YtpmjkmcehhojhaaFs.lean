/- The reference's powers, values, sums of products and weights, walked. -/
import Derived.Test.YtpmjkmcehhojhaaFr
namespace Go.Proofs.Ytpmjkmcehhojhaa.F
open Go.RowKit Go.Proofs.YtpmjkmcehhojhaaW.PrintWords

theorem gpow_mod {a : Nat} (ha : a < 256) (h0 : a ≠ 0) (n : Nat) : gpow a (n % 255) = gpow a n := by
  have hk : ∀ k m, gpow a (255 * k + m) = gpow a m := by
    intro k
    induction k with
    | zero => intro m; simp
    | succ k ih =>
      intro m
      rw [show 255 * (k + 1) + m = 255 + (255 * k + m) by omega, gpow_add ha, gpow255 ha h0, gm_one_left (gpow_lt ha _), ih]
  have := hk (n / 255) (n % 255)
  rw [show 255 * (n / 255) + n % 255 = n by omega] at this
  exact this.symm
theorem gpow_zero {n : Nat} (h : 0 < n) : gpow 0 n = 0 := by
  obtain ⟨m, rfl⟩ : ∃ m, n = m + 1 := ⟨n - 1, by omega⟩
  exact gm_zero_right _

theorem refPow_c (a : Nat) (n : Int) (ha : a < 256) (w : World) :
    Calls Try.prog 11 #[.int .u8 a, .int .i64 n] w fun e w' => e = .returned (.int .u8 (gpow a n.toNat : Nat)) ∧ w = w' := by
  by_cases hn : n ≤ 0
  · have hd : decide (n ≤ 0) = true := decide_eq_true hn
    have e : n.toNat = 0 := by omega
    rw [e]
    go_enter Try.func11, Try.ntmps11
    go_wp2
    go_ret
    exact ⟨rfl, rfl⟩
  · have hd : decide (n ≤ 0) = false := decide_eq_false hn
    by_cases h0 : a = 0
    · subst h0
      have e : gpow 0 n.toNat = 0 := gpow_zero (by omega)
      rw [e]
      go_enter Try.func11, Try.ntmps11
      go_wp2
      go_ret
      exact ⟨rfl, rfl⟩
    · have hb : ((a : Int) == 0) = false := beq_eq_false_iff_ne.2 (by omega)
      obtain ⟨m, hm⟩ : ∃ m, n.toNat = m := ⟨_, rfl⟩
      rw [hm]
      have hg := gpow_mod ha h0 m
      have HG := Lib.hid hg
      have hq : n % 255 < 255 := by omega
      have hq0 : 0 ≤ n % 255 := by omega
      have hn0 : 0 ≤ n := by omega
      have hmn : m % 255 = (n % 255).toNat := by omega
      have HM := Lib.hid hmn
      clear h0 hg hn hm hmn
      rw [← HG.out, HM.out]
      go_enter Try.func11, Try.ntmps11
      go_wp2
      go_loop [5, 6] (fun vo vi => ∃ i : Nat, (i : Int) ≤ n % 255 ∧ vi = .int .i64 i ∧ vo = .int .u8 (gpow a i : Nat)) (fun _ vi => (n % 255).toNat - (intOf vi).toNat)
      case atStart => exact ⟨0, by omega, rfl, rfl⟩
      case round =>
        obtain ⟨i, hi, rfl, rfl⟩ := hrel
        by_cases hlt : (i : Int) < n % 255
        · have hd1 : decide ((i : Int) < n % 255) = true := by simp; omega
          go_wp2_with fail
          refine (refMul_c _ a (gpow_lt ha i) ha _).mono ?_
          rintro e w1 ⟨rfl, rfl⟩
          go_wp2_with fail
          exact ⟨⟨i + 1, by omega, by go_num, rfl⟩, by simp [intOf]; omega⟩
        · have hd1 : decide ((i : Int) < n % 255) = false := by simp; omega
          have e : (n % 255).toNat = i := by omega
          have HE := Lib.hid e
          clear e
          go_wp2
          go_ret
          rw [HE.out]
          exact ⟨rfl, rfl⟩

theorem refEval_c (A : Option Addr) (c : Nat) (p : List Nat) (x : Nat) (w : World) (hr : RN .u8 w A p) (hp : ∀ c ∈ p, c < 256) (hx : x < 256) :
    Calls Try.prog 20 #[.slice A p.length c, .int .u8 x] w fun e w' => e = .returned (.int .u8 (geval p x : Nat)) ∧ w = w' := by
  have hm := hr.max
  go_enter Try.func20, Try.ntmps20
  go_wp2
  go_loop [5, 6, 7] (fun vo vp vi => ∃ i o q : Nat, i ≤ p.length ∧ o < 256 ∧ q < 256 ∧ vo = .int .u8 o ∧ vp = .int .u8 q ∧ vi = .int .i64 i ∧ o ^^^ gm (geval (p.drop i) x) q = geval p x) (fun _ _ vi => p.length - (intOf vi).toNat)
  case atStart => exact ⟨0, 0, 1, by omega, by omega, by omega, rfl, rfl, rfl, by simp [gm_one (geval_lt hp hx)]⟩
  case round =>
    obtain ⟨i, o, q, hi, ho, hq, rfl, rfl, rfl, hg⟩ := hrel
    have HG := Lib.hid hg
    clear hg
    by_cases hlt : i < p.length
    · obtain ⟨ad, e, hc⟩ := hr.at i hlt
      subst e
      obtain ⟨z, hz⟩ : ∃ z, p[i] = z := ⟨_, rfl⟩
      rw [hz] at hc
      have lz : z < 256 := by rw [← hz]; exact hp _ (List.getElem_mem _)
      have HZ := Lib.hid hz
      clear hz
      have hd : decide ((i : Int) < p.length) = true := by simp; omega
      go_wp2_with fail
      refine (refMul_c z q lz hq _).mono ?_
      rintro e w1 ⟨rfl, rfl⟩
      go_wp2_with fail
      refine (refMul_c q x hq hx _).mono ?_
      rintro e w1 ⟨rfl, rfl⟩
      go_wp2_with fail
      refine ⟨⟨i + 1, o ^^^ gm z q, gm q x, by omega, xor_lt ho (gm_lt lz q), gm_lt hq x, ?_, rfl, by go_num, ?_⟩, by simp [intOf]; omega⟩
      · rw [u8_xor_nat _ _ ho (gm_lt lz q)]
      · have lt := geval_lt (p := p.drop (i + 1)) (fun d hd => hp d (List.mem_of_mem_drop hd)) hx
        rw [← HG.out, geval_drop hlt, HZ.out, gm_xor_left _ lz (gm_lt lt x), ← gm_assoc lt hx hq, gm_comm hx hq, Nat.xor_assoc]
    · have hd : decide ((i : Int) < p.length) = false := by simp; omega
      have h := HG.out
      rw [List.drop_eq_nil_of_le (by omega)] at h
      simp only [geval, gm_zero_left, Nat.xor_zero] at h
      have H := Lib.hid h
      clear h
      go_wp2
      go_ret
      exact ⟨by rw [← H.out]; rfl, rfl⟩

theorem refDot_c (A B : Option Addr) (c d : Nat) (a b : List Nat) (w : World) (ha : RN .u8 w A a) (hb : RN .u8 w B b) (la : ∀ c ∈ a, c < 256) (lb : ∀ c ∈ b, c < 256) :
    Calls Try.prog 22 #[.slice A a.length c, .slice B b.length d] w fun e w' => e = .returned (.int .u8 (gdot a b : Nat)) ∧ ∃ n, w' = w.drewN n := by
  have hma := ha.max
  have hmb := hb.max
  go_enter Try.func22, Try.ntmps22
  go_wp2
  go_loopw [5, 6] (fun vo vi W => ∃ i o : Nat, i ≤ a.length ∧ i ≤ b.length ∧ o < 256 ∧ vo = .int .u8 o ∧ vi = .int .i64 i ∧ o ^^^ gdot (a.drop i) (b.drop i) = gdot a b ∧ Drawn0 w W) (fun _ vi _ => a.length - (intOf vi).toNat)
  case atStart => exact ⟨0, 0, by omega, by omega, by omega, rfl, rfl, by simp, Drawn0.refl _⟩
  case round =>
    obtain ⟨i, o, hi, hi2, ho, rfl, rfl, hg, hW⟩ := hrel
    have HG := Lib.hid hg
    clear hg
    by_cases h1 : i < a.length
    · have hd1 : decide ((i : Int) < a.length) = true := by simp; omega
      by_cases h2 : i < b.length
      · obtain ⟨ad, e, hca⟩ := (ha.below hW.below).atN i h1
        subst e
        obtain ⟨bd, e, hcb⟩ := (hb.below hW.below).atN i h2
        subst e
        obtain ⟨y, hy⟩ : ∃ y, a[i] = y := ⟨_, rfl⟩
        obtain ⟨z, hz⟩ : ∃ z, b[i] = z := ⟨_, rfl⟩
        rw [hy] at hca
        rw [hz] at hcb
        have ly : y < 256 := by rw [← hy]; exact la _ (List.getElem_mem _)
        have lz : z < 256 := by rw [← hz]; exact lb _ (List.getElem_mem _)
        have HY := Lib.hid hy
        have HZ := Lib.hid hz
        clear hy hz
        have hd2 : decide ((i : Int) < b.length) = true := by simp; omega
        go_wp2_with fail
        go_quiet ((go_at_call 16; exact Calls.quiet_of_same ((refMul_c y z ly lz _).mono fun _ _ h => ⟨h.1, h.2.symm⟩)))
        go_wp2_with fail
        refine ⟨⟨i + 1, o ^^^ gm y z, by omega, by omega, xor_lt ho (gm_lt ly z), ?_, by go_num, ?_, hW.step _⟩, by simp [intOf]; omega⟩
        · rw [u8_xor_nat _ _ ho (gm_lt ly z)]
        · rw [← HG.out, gdot_drop h1 h2, HY.out, HZ.out, Nat.xor_assoc]
      · have hd2 : decide ((i : Int) < b.length) = false := by simp; omega
        have h := HG.out
        rw [gdot_end a b (by omega)] at h
        have h' : o = gdot a b := by simpa using h
        have H' := Lib.hid h'
        clear h h'
        go_wp2
        go_ret
        exact ⟨by rw [H'.out]; rfl, hW.out⟩
    · have hd1 : decide ((i : Int) < a.length) = false := by simp; omega
      have h := HG.out
      rw [gdot_end a b (by omega)] at h
      have h' : o = gdot a b := by simpa using h
      have H' := Lib.hid h'
      clear h h'
      go_wp2
      go_ret
      exact ⟨by rw [H'.out]; rfl, hW.out⟩
end Go.Proofs.Ytpmjkmcehhojhaa.F
