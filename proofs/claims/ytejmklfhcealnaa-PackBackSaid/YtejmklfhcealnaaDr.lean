/- The words of the rounds and the first state, walked. -/
import Derived.Test.YtejmklfhcealnaaDw
set_option linter.unusedVariables false
set_option linter.unusedSimpArgs false
set_option maxRecDepth 20000
namespace Go.Proofs.Ytejmklfhcealnaa.F
open Go.RowKit Go.Proofs.YtejmklfhcealnaaW.PrintWords

theorem Kw_size : (tabA Kw).size = 64 := by simp [tabA, Kw]
section
variable {P : Program} {ops : Array Oper} {rest : List Oper} {o : Oper} {a : Act} {w : World} {Q : Exit → Act → World → Prop}
/-- A build whose value is told by its run. -/
theorem wpList_build (hgd : o.guard = none) (ty : TypeId) (fs : Array (Nat × Operand)) (ho : o.op = .build ty fs) (v : Value) (hrun : (execOp a.eval o).run P w = .ok (.value v) w) (h : wpList P ops Q rest (a.put o.dst v) w) : wpList P ops Q (o :: rest) a w :=
  wpList_plain hgd fun K hK => by
    unfold Oper.wp
    rw [hrun]
    exact hK _ _ h
end
theorem rounds_c (w : World) : Calls Try.prog 62 #[] w fun e w' => e = .returned (.agg (tabA Kw)) ∧ Below w.heap.size w w' := by
  have hz := zero64
  have hi2 : (Try.prog.info? 104).map (·.size) = some (tabA Kw).size := by rw [Kw_size]; exact info64
  have ho2 : (tabA Kw).all (·.oneCell') = true := tabA_one _
  have hs2 : zeros64.size = (tabA Kw).size := by rw [Kw_size]; simp [zeros64]
  have HI := Lib.hid hi2
  have HO := Lib.hid ho2
  have HS := Lib.hid hs2
  have hn := heap_alloc_new w (.cells zeros64 104)
  have HN := Lib.hid hn
  clear hi2 ho2 hs2 hn
  go_enter Try.func62, Try.ntmps62
  repeat (first | (refine wpList_build rfl _ _ rfl (.agg (tabA Kw)) (by kernel_rfl) ?_) | (refine wpList_store_row rfl 104 (.tmp 0) (.tmp 1) rfl w.heap.size rfl (tabA Kw) zeros64 rfl 104 HN.out HI.out HS.out HO.out ?_) | go_step)
  exact bodyPost_ret (v := .agg (tabA Kw)) (results_cell_row rfl _ _ w.heap.size 104 (tabA Kw) (0, 0) _ rfl (setRow_heap _ _ _ _ _ _ HN.out) Try.underlying104 rfl HI.out) rfl ⟨rfl, below_setRow ((Below.refl _ _).alloc (Nat.le_refl _) _) (Nat.le_refl _) _⟩
end Go.Proofs.Ytejmklfhcealnaa.F
