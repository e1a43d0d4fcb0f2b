/- A seed's table, and which bounds there are. -/
import Derived.Test.YtbckibjpaiealaaGv
import Derived.Stop.BytesEq
set_option linter.unusedVariables false
set_option linter.unusedSimpArgs false
namespace Go.Proofs.Ytbckibjpaiealaa.F
open Go.RowKit Go.Proofs.YtbckibjpaiealaaW.PrintWords

theorem equalIn_tab (w : World) (d : Nat) (t e : TypeId) (n : Nat) {P : Program} (ht : P.underlying t = some (.array n e)) (he : P.underlying e = some (.int .u32)) (hsz : ∀ w, (sizeOf e).run P w = .ok 1 w)
    (xs : List Nat) (hx : xs.length = n) : (Op.equalIn (d + 2) t (.agg (tabA xs)) (.agg (tabA xs))).run P w = .ok true w := by
  rw [Op.equalIn]
  simp only [Sem.run_bind, run_underlying ht, Result.andThen_ok, hsz, Std.Legacy.Range.forIn_eq_forIn_range', Std.Legacy.Range.size, Nat.sub_zero, Nat.add_sub_cancel, Nat.div_one]
  have hl : ∀ i ∈ List.range' 0 n 1, i < n := fun i hi => by simpa using (List.mem_range'_1.1 hi).2
  generalize List.range' 0 n 1 = l at hl ⊢
  induction l with
  | nil => simp
  | cons i l ih =>
    have hi : i < n := hl i (by simp)
    have px : (part e (tabA xs) (i * 1)).run P w = .ok (.int .u32 (xs[i]'(by omega) : Nat)) w := by
      simp [part, isAgg, run_underlying he, tabA_get xs i (by omega)]
    have pe : (Op.equalIn (d + 1) e (.int .u32 (xs[i]'(by omega) : Nat)) (.int .u32 (xs[i]'(by omega) : Nat))).run P w = .ok true w := by
      rw [run_equalIn_int w d e .u32 .u32 _ _ he]
      simp
    simp only [List.forIn_cons, Sem.run_bind, px, pe, Result.andThen_ok]
    simp only [Bool.not_true, Bool.false_eq_true, if_false, Sem.run_pure, Result.andThen_ok]
    exact ih fun j hj => hl j (by simp [hj])
theorem eql_tab (w : World) (xs : List Nat) (hx : xs.length = 256) : Sem.run Try.prog (binOp BinOp.eql 27 (.agg (tabA xs)) (.agg (tabA xs))) w = Result.ok (.bool true) w := by
  rw [run_eql_struct, equalIn_tab w 9998 27 26 256 Try.underlying27 Try.underlying26 (fun _ => by kernel_rfl) xs hx]
  rfl

set_option maxRecDepth 20000 in
set_option maxHeartbeats 2000000 in
theorem GearTables_walk (seed : Nat) (mn av mx : Int) (hs : seed < 18446744073709551616) (w : World) :
    Calls Try.prog 3 #[.int .u64 seed, .agg #[.int .i64 mn, .int .i64 av, .int .i64 mx]] w fun e w' => e = .returned (.bool true) ∧ Below w.heap.size w w' := by
  have htc := Table_c seed hs
  have hrc := refTable_c seed hs
  have heq := fun w => eql_tab w (gtab seed) (gtab_len seed)
  obtain ⟨tt, htt⟩ : ∃ tt, tabA (gtab seed) = tt := ⟨_, rfl⟩
  rw [htt] at htc hrc heq
  obtain ⟨sv, hsv⟩ : ∃ sv : Int, (seed : Int) = sv := ⟨_, rfl⟩
  rw [hsv] at htc hrc ⊢
  clear htt hsv hs
  obtain ⟨cv, hcv⟩ : ∃ cv, checkV mn av mx = cv := ⟨_, rfl⟩
  obtain ⟨W0, hW0⟩ : ∃ W0, w.alloc (.cells #[.int .i64 mn, .int .i64 av, .int .i64 mx] 24) = W0 := ⟨_, rfl⟩
  have hB0 : Below w.heap.size w W0 := by rw [← hW0]; exact (Below.refl _ _).alloc (Nat.le_refl _) _
  have hg : W0.heap[w.heap.size]? = some (.cells #[.int .i64 mn, .int .i64 av, .int .i64 mx] 24 (0, 0)) := by rw [← hW0]; exact heap_alloc_new _ _
  have c0 : ∀ d os, (Sort.grow (redrawn W0 d) os).cell? ⟨w.heap.size, 0, none⟩ = some (.int .i64 mn) := fun d os => by rw [cell_of_row _ _ _ _ _ _ (heap_regrown hg d os)]; rfl
  have c1 : ∀ d os, (Sort.grow (redrawn W0 d) os).cell? ⟨w.heap.size, 1, none⟩ = some (.int .i64 av) := fun d os => by rw [cell_of_row _ _ _ _ _ _ (heap_regrown hg d os)]; rfl
  have c2 : ∀ d os, (Sort.grow (redrawn W0 d) os).cell? ⟨w.heap.size, 2, none⟩ = some (.int .i64 mx) := fun d os => by rw [cell_of_row _ _ _ _ _ _ (heap_regrown hg d os)]; rfl
  have h1 : ∀ d os, Calls Try.prog 9 #[] (Sort.grow (redrawn W0 d) os) fun e w'' => e = .returned (.bool true) ∧ ∃ p : Regrown, w'' = Sort.grow (redrawn W0 p.d) p.os := fun d os => Calls.regrown_of (live_c _)
  have h2 : ∀ d os, Calls Try.prog 10 #[.int .u64 sv] (Sort.grow (redrawn W0 d) os) fun e w'' => e = .returned (.agg tt) ∧ ∃ p : Regrown, w'' = Sort.grow (redrawn W0 p.d) p.os := fun d os => Calls.regrown_of (htc _)
  have h3 : ∀ d os, Calls Try.prog 11 #[.int .u64 sv] (Sort.grow (redrawn W0 d) os) fun e w'' => e = .returned (.agg tt) ∧ ∃ p : Regrown, w'' = Sort.grow (redrawn W0 p.d) p.os := fun d os => Calls.regrown_of (hrc _)
  have h4 : ∀ d os, Calls Try.prog 12 #[.agg #[.int .i64 mn, .int .i64 av, .int .i64 mx]] (Sort.grow (redrawn W0 d) os) fun e w'' => e = .returned (.int .i64 cv) ∧ ∃ p : Regrown, w'' = Sort.grow (redrawn W0 p.d) p.os := fun d os => by rw [← hcv]; exact Calls.regrown_of (Check_c mn av mx _)
  have h5 : ∀ d os, Calls Try.prog 13 #[.agg #[.int .i64 mn, .int .i64 av, .int .i64 mx]] (Sort.grow (redrawn W0 d) os) fun e w'' => e = .returned (.int .i64 cv) ∧ ∃ p : Regrown, w'' = Sort.grow (redrawn W0 p.d) p.os := fun d os => by rw [← hcv]; exact Calls.regrown_of (refCheck_c mn av mx _)
  have H1 := Lib.hid h1
  have H2 := Lib.hid h2
  have H3 := Lib.hid h3
  have H4 := Lib.hid h4
  have H5 := Lib.hid h5
  have HW0 := Lib.hid hW0
  clear h1 h2 h3 h4 h5 htc hrc hcv hg hW0
  go_enter Try.func3, Try.ntmps3
  go_wp2_with fail
  rw [HW0.out]
  refine wp_region_quiet_below (by kernel_rfl) (by kernel_rfl) ?_
  repeat (quiet_step (first | exact H1.out _ _ | exact H2.out _ _ | exact H3.out _ _ | exact H4.out _ _ | exact H5.out _ _))

  refine wpQuiet_nil ?_
  intro wq hw'
  have hBq : Below W0.heap.size W0 wq := by
    obtain ⟨⟨dq, osq⟩, hw''⟩ := hw'
    rw [hw'']; exact below_regrown W0 dq osq
  clear hw' c0 c1 c2
  go_wp2_with fail
  go_ret
  exact ⟨rfl, hB0.trans (hBq.mono hB0.size)⟩
end Go.Proofs.Ytbckibjpaiealaa.F
