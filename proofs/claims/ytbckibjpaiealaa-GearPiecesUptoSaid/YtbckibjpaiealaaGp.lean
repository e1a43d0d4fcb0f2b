/- New, Write, End, walked. -/
import Derived.Test.YtbckibjpaiealaaGo
import Derived.Great.BuildSlice
set_option linter.unusedVariables false
set_option linter.unusedSimpArgs false
namespace Go.Proofs.Ytbckibjpaiealaa.F
open Go.RowKit Go.Proofs.YtbckibjpaiealaaW.PrintWords

theorem New_bad (mn av mx : Int) (tb : List Nat) (W : World) (ht : tb.length = 256) (h : cutOk mn av mx = false) :
    Calls Try.prog 19 #[.agg #[.int .i64 mn, .int .i64 av, .int .i64 mx], .agg (tabA tb)] W fun e w' => e = .returned (.tuple #[.pointer none, .int .i64 2]) ∧ Below W.heap.size W w' := by
  have hit : (Try.prog.info? 27).map (·.size) = some (tabA tb).size := by rw [tabA_size, ht]; exact infoT
  obtain ⟨tt, htt⟩ : ∃ tt, tabA tb = tt := ⟨_, rfl⟩
  rw [htt] at hit ⊢
  clear htt
  have HI := Lib.hid hit
  clear hit
  have hck : checkV mn av mx = 2 := by unfold checkV; rw [h]; rfl
  have hB : Below W.heap.size W ((W.alloc (.cells #[.int .i64 mn, .int .i64 av, .int .i64 mx] 24)).alloc (.cells tt 27)) := ((Below.refl _ _).alloc (Nat.le_refl _) _).alloc (by simp) _
  go_enter Try.func19, Try.ntmps19
  go_wp2_with fail
  refine (Check_c mn av mx _).mono ?_
  rw [hck]
  rintro e w1 ⟨rfl, hb1⟩
  go_wp2_with fail
  go_ret2
  exact ⟨rfl, hB.trans (hb1.mono hB.size)⟩

theorem build_two {P : Program} {ops : Array Oper} {rest : List Oper} {o : Oper} {a : Act} {w : World} {Q : Exit → Act → World → Prop} (hg : o.guard = none) (t : TypeId) (x y : Operand) (u v : Value) (cc : Array Value)
    (ho : o.op = .build t #[(0, x), (1, y)]) (hx : a.eval x = u) (hy : a.eval y = v) (hb : P.built t [(0, u), (1, v)] = some cc) (h : wpList P ops Q rest (a.put o.dst (.agg cc)) w) : wpList P ops Q (o :: rest) a w := by
  subst hx hy
  exact wpList_buildTo hg t #[(0, x), (1, y)] ho o.dst rfl cc (by simpa using hb) h

set_option maxRecDepth 20000 in
theorem New_ok (mn av mx : Nat) (tb : List Nat) (W : World) (ht : tb.length = 256) (h : cutOk mn av mx = true) :
    Calls Try.prog 19 #[.agg #[.int .i64 mn, .int .i64 av, .int .i64 mx], .agg (tabA tb)] W fun e w' =>
      ∃ B, e = .returned (.tuple #[.pointer (some ⟨B, 0, none⟩), .int .i64 0]) ∧ W.heap.size ≤ B ∧ CU w' B mn av mx tb (.slice none 0 0) 0 false ∧ Below W.heap.size W w' := by
  have hit : (Try.prog.info? 27).map (·.size) = some (tabA tb).size := by rw [tabA_size, ht]; exact infoT
  have hbl := built_cutter mn av mx tb ht
  obtain ⟨cc, hcc⟩ : ∃ cc, cuA mn av mx tb (.slice none 0 0) 0 false = cc := ⟨_, rfl⟩
  obtain ⟨tt, htt⟩ : ∃ tt, tabA tb = tt := ⟨_, rfl⟩
  rw [htt] at hit hbl ⊢
  rw [hcc] at hbl
  have HCC := Lib.hid hcc
  have HBL := Lib.hid hbl
  clear htt hcc hbl
  have HI := Lib.hid hit
  clear hit
  have hck : checkV mn av mx = 0 := by unfold checkV; rw [h]; rfl
  obtain ⟨W2, hW2⟩ : ∃ W2, (W.alloc (.cells #[.int .i64 mn, .int .i64 av, .int .i64 mx] 24)).alloc (.cells tt 27) = W2 := ⟨_, rfl⟩
  have hB : Below W.heap.size W W2 := by rw [← hW2]; exact ((Below.refl _ _).alloc (Nat.le_refl _) _).alloc (by simp) _
  have hs2 : W2.heap.size = W.heap.size + 1 + 1 := by rw [← hW2]; simp
  have hg1 : W2.heap[W.heap.size]? = some (.cells #[.int .i64 mn, .int .i64 av, .int .i64 mx] 24 (0, 0)) := by rw [← hW2]; exact heap_alloc2_old _ _ _
  have hg2 : W2.heap[W.heap.size + 1]? = some (.cells tt 27 (0, 0)) := by rw [← hW2]; exact heap_alloc2_new _ _ _
  have d0 : W2.cell? ⟨W.heap.size, 0, none⟩ = some (.int .i64 mn) := by rw [cell_of_row _ _ _ _ _ _ hg1]; rfl
  have d1 : W2.cell? ⟨W.heap.size, 1, none⟩ = some (.int .i64 av) := by rw [cell_of_row _ _ _ _ _ _ hg1]; rfl
  have d2 : W2.cell? ⟨W.heap.size, 2, none⟩ = some (.int .i64 mx) := by rw [cell_of_row _ _ _ _ _ _ hg1]; rfl
  go_enter Try.func19, Try.ntmps19
  go_wp2_with fail
  refine (Check_c mn av mx _).mono ?_
  rw [hck]
  rintro e w1 ⟨rfl, hb1⟩
  have e1 : w1.heap[W.heap.size]? = some (.cells #[.int .i64 mn, .int .i64 av, .int .i64 mx] 24 (0, 0)) := (hb1.block _ (by omega)).trans hg1
  have e2 : w1.heap[W.heap.size + 1]? = some (.cells tt 27 (0, 0)) := (hb1.block _ (by omega)).trans hg2
  have c0 : w1.cell? ⟨W.heap.size, 0, none⟩ = some (.int .i64 mn) := by rw [cell_of_row _ _ _ _ _ _ e1]; rfl
  have c1 : w1.cell? ⟨W.heap.size, 1, none⟩ = some (.int .i64 av) := by rw [cell_of_row _ _ _ _ _ _ e1]; rfl
  have c2 : w1.cell? ⟨W.heap.size, 2, none⟩ = some (.int .i64 mx) := by rw [cell_of_row _ _ _ _ _ _ e1]; rfl
  have hb2 : Below W.heap.size W w1 := hB.trans (hb1.mono hB.size)
  have E2 := Lib.hid e2
  have HB2 := Lib.hid hb2
  clear d0 d1 d2 hg1 hg2 e1 e2 hb1 hb2 hs2 hW2
  go_wp2_with (first | refine build_two rfl 54 (.tmp 12) (.tmp 13) _ _ cc rfl rfl rfl HBL.out ?_ | refine wpList_load_row rfl 27 (.tmp 3) rfl (W.heap.size + 1) rfl 27 tt (0, 0) _ E2.out Try.underlying27 rfl HI.out ?_)

  go_ret2
  refine ⟨_, rfl, HB2.out.size, ?_, ?_⟩
  · rw [CU, HCC.out]; exact heap_alloc_new _ _
  · exact HB2.out.alloc HB2.out.size _
end Go.Proofs.Ytbckibjpaiealaa.F
