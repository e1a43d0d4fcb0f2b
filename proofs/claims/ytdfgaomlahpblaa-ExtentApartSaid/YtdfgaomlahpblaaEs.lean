/- Runs, the same or not. -/
import Derived.Test.YtdfgaomlahpblaaEq
import Derived.Test.YtdfgaomlahpblaaWEqStruct
set_option linter.unusedVariables false
set_option linter.unusedSimpArgs false
namespace Go.Proofs.Ytdfgaomlahpblaa.F
open Go.RowKit Go.Proofs.YtdfgaomlahpblaaW.PrintWords

theorem eqR_run (a b c e : Int) (w : World) : (Op.equalIn 10000 38 (.agg #[.int .i64 a, .int .i64 b]) (.agg #[.int .i64 c, .int .i64 e])).run Try.prog w = .ok (a == c && b == e) w := by
  refine eqA_of (d := 9999) Try.underlying38 (by kernel_rfl) ?_
  refine eqf_cons rfl (a := .int .i64 a) (b := .int .i64 c) (by simp [part, go_sem, Try.isAgg3]) (by simp [part, go_sem, Try.isAgg3]) (run_equalIn_int w 9998 3 .i64 .i64 a c Try.underlying3) ?_
  exact eqf_last rfl (a := .int .i64 b) (b := .int .i64 e) (by simp [part, go_sem, Try.isAgg3]) (by simp [part, go_sem, Try.isAgg3]) (run_equalIn_int w 9998 3 .i64 .i64 b e Try.underlying3)
theorem neqR_run (a b c e : Int) (w : World) : Sem.run Try.prog (binOp BinOp.neq 38 (.agg #[.int .i64 a, .int .i64 b]) (.agg #[.int .i64 c, .int .i64 e])) w = .ok (.bool (!(a == c && b == e))) w := by
  rw [run_neq_struct, eqR_run]; rfl
theorem eqlR_run (a b c e : Int) (w : World) : Sem.run Try.prog (binOp BinOp.eql 38 (.agg #[.int .i64 a, .int .i64 b]) (.agg #[.int .i64 c, .int .i64 e])) w = .ok (.bool (a == c && b == e)) w := by
  rw [run_eql_struct, eqR_run]; rfl
theorem eqGuardR (x y : Operand) (op : BinOp) (a b c e : Int) (w : World) : Sem.run Try.prog (eqGuard op 38 x y (.agg #[.int .i64 a, .int .i64 b]) (.agg #[.int .i64 c, .int .i64 e])) w = .ok () w := run_eqGuard_agg w op _ x y _ _ (by kernel_rfl)
def SameR (a b : List Rn) (i : Nat) : Prop := ∀ j (h : j < a.length) (h2 : j < b.length), j < i → a[j] = b[j]
set_option maxRecDepth 20000 in
set_option maxHeartbeats 4000000 in
theorem Same_c (A B : Option Addr) (c d : Nat) (a b : List Rn) (w : World) (h1 : RU w A a) (h2 : RU w B b) :
    Calls Try.prog 17 #[.slice A a.length c, .slice B b.length d] w fun e w' => e = .returned (.bool (decide (a = b))) ∧ Below w.heap.size w w' := by
  have hm := h1.max
  have hm2 := h2.max
  obtain ⟨r, hr⟩ : ∃ r, decide (a = b) = r := ⟨_, rfl⟩
  rw [hr]
  have HR := Lib.hid hr
  have H1 := Lib.hid h1
  have H2 := Lib.hid h2
  clear hr h1 h2
  by_cases hl : a.length = b.length
  · have hne : ((a.length : Int) != b.length) = false := by simp [hl]
    have HLN := Lib.hid hl
    clear hl
    go_enter Try.func17, Try.ntmps17
    go_wp2_with fail
    go_loopw [5] (fun vi W => ∃ i : Nat, i ≤ a.length ∧ vi = .int .i64 i ∧ SameR a b i ∧ Below w.heap.size w W) (fun vi _ => a.length - (intOf vi).toNat)
    case atStart => exact ⟨0, by omega, rfl, fun j _ _ h => by omega, Below.refl _ _⟩
    case round =>
      obtain ⟨i, hi, rfl, hst, hB⟩ := hrel
      have HST := Lib.hid hst
      have HB := Lib.hid hB
      clear hst hB
      by_cases hlt : i < a.length
      · have hd : decide ((i : Int) < a.length) = true := decide_eq_true (by omega)
        have hlb : i < b.length := by have := HLN.out; omega
        obtain ⟨g1, o1, e1, _, p1, p2⟩ := (H1.out.below HB.out).at i hlt
        obtain ⟨g2, o2, e2, _, q1, q2⟩ := (H2.out.below HB.out).at i hlb
        subst e1
        subst e2
        have hneq : a[i] ≠ b[i] → a ≠ b := fun h e => h (by subst e; rfl)
        have hstep : a[i] = b[i] → SameR a b (i + 1) := fun h j hj hj2 hji => by
          by_cases e : j = i
          · subst e; exact h
          · exact HST.out j hj hj2 (by omega)
        obtain ⟨⟨x1, x2⟩, hx⟩ : ∃ x, a[i] = x := ⟨_, rfl⟩
        obtain ⟨⟨y1, y2⟩, hy⟩ : ∃ y, b[i] = y := ⟨_, rfl⟩
        rw [hx] at p1 p2
        rw [hy] at q1 q2
        rw [hx, hy] at hneq hstep
        dsimp only at p1 p2 q1 q2
        have i0 : (0 : Int) ≤ (i : Int) := by omega
        have i1 : (i : Int) < (a.length : Int) := by omega
        have i2 : (i : Int) < (b.length : Int) := by omega
        have HS := Lib.hid hstep
        have HN := Lib.hid hneq
        have nq := neqR_run x1 x2 y1 y2
        have gq := fun p q => eqGuardR p q .neq x1 x2 y1 y2
        clear hx hy hneq hstep
        by_cases hxy : x1 = y1 ∧ x2 = y2
        · have hv : ((x1 : Int) == y1 && (x2 : Int) == y2) = true := by simp [hxy.1, hxy.2]
          simp only [hv, Bool.not_true] at nq
          have hs := HS.out (Prod.ext hxy.1 hxy.2)
          have HS2 := Lib.hid hs
          clear hxy hs hv
          go_wp2_with fail
          go_quiet (fail)
          go_wp2_with fail
          exact ⟨⟨i + 1, by omega, by go_num, HS2.out, pw_below_drewN HB.out _⟩, by simp [intOf]; omega⟩
        · have hv : ((x1 : Int) == y1 && (x2 : Int) == y2) = false := by
            rw [Bool.and_eq_false_iff]
            simp only [beq_eq_false_iff_ne]
            omega
          simp only [hv, Bool.not_false] at nq
          have hrf : r = false := by rw [← HR.out]; exact decide_eq_false (HN.out (fun e => hxy (by cases e; exact ⟨rfl, rfl⟩)))
          have HRF := Lib.hid hrf
          clear hrf hxy hv
          go_wp2_with fail
          go_quiet (fail)
          go_wp2_with fail
          go_ret
          rw [HRF.out]
          exact ⟨rfl, pw_below_drewN HB.out _⟩
      · have hd : decide ((i : Int) < a.length) = false := decide_eq_false (by omega)
        obtain rfl : i = a.length := by omega
        have hrt : r = true := by rw [← HR.out]; exact decide_eq_true (List.ext_getElem HLN.out (fun j h1 h2 => HST.out j h1 h2 h1))
        have HRT := Lib.hid hrt
        clear hrt
        go_wp2_with fail
        go_ret
        rw [HRT.out]
        exact ⟨rfl, HB.out⟩
  · have hne : ((a.length : Int) != b.length) = true := by simp; omega
    have hrf : r = false := by rw [← HR.out]; exact decide_eq_false (fun e => hl (by rw [e]))
    have HRF := Lib.hid hrf
    clear hrf
    go_enter Try.func17, Try.ntmps17
    go_wp2_with fail
    go_ret
    rw [HRF.out]
    exact ⟨rfl, Below.refl _ _⟩
end Go.Proofs.Ytdfgaomlahpblaa.F
