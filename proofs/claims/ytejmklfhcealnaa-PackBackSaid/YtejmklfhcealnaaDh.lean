/- A sum that goes on: made, asked, forked. -/
import Derived.Test.YtejmklfhcealnaaDm
import Derived.Test.YtejmklfhcealnaaCl
set_option linter.unusedVariables false
set_option linter.unusedSimpArgs false
set_option maxRecDepth 20000
namespace Go.Proofs.Ytejmklfhcealnaa.F
open Go.RowKit Go.Proofs.YtejmklfhcealnaaW.PrintWords

def hbA (s : St) (v : Value) (n : Nat) : Array Value := #[.int .u32 s.a, .int .u32 s.b, .int .u32 s.c, .int .u32 s.d, .int .u32 s.e, .int .u32 s.f, .int .u32 s.g, .int .u32 s.h, v, .int .i64 n]
/-- A hash's block. -/
def HB (W : World) (B : Nat) (s : St) (v : Value) (n : Nat) : Prop := W.heap[B]? = some (.cells (hbA s v n) 101 (0, 0))
theorem begin_c (w : World) : Calls Try.prog 58 #[] w fun e w' => e = .returned (.agg beginS.val) ∧ Below w.heap.size w w' := by
  have hz := zero8
  have i8 : (Try.prog.info? 98).map (·.size) = some beginS.val.size := info8
  have HI := Lib.hid i8
  have hn := heap_alloc_new w (.cells zeros8 98)
  have HN := Lib.hid hn
  clear i8 hn
  go_enter Try.func58, Try.ntmps58
  repeat (first | (refine wpList_build rfl _ _ rfl (.agg beginS.val) (by kernel_rfl) ?_) | (refine wpList_store_row rfl 98 (.tmp 0) (.tmp 1) rfl w.heap.size rfl beginS.val zeros8 rfl 98 HN.out HI.out rfl (St.val_one _) ?_) | go_step)
  exact bodyPost_ret (v := .agg beginS.val) (results_cell_row rfl _ _ w.heap.size 98 beginS.val (0, 0) _ rfl (setRow_heap _ _ _ _ _ _ HN.out) Try.underlying98 rfl HI.out) rfl ⟨rfl, below_setRow ((Below.refl _ _).alloc (Nat.le_refl _) _) (Nat.le_refl _) _⟩
theorem NewH_c (w : World) : Calls Try.prog 50 #[] w fun e w' => ∃ B, e = .returned (.pointer (some ⟨B, 0, none⟩)) ∧ w.heap.size ≤ B ∧ B < w'.heap.size ∧ HB w' B beginS (.slice none 0 0) 0 ∧ Below w.heap.size w w' := by
  go_enter Try.func50, Try.ntmps50
  go_wp2_with fail
  refine (begin_c _).mono ?_
  rintro e w1 ⟨rfl, hb1⟩
  have HB1 := Lib.hid hb1
  clear hb1
  dsimp only
  repeat (first | (refine wpList_build rfl _ _ rfl (.agg (hbA beginS (.slice none 0 0) 0)) (by kernel_rfl) ?_) | go_step)
  go_ret
  exact ⟨w1.heap.size, rfl, HB1.out.size, by simp, heap_alloc_new _ _, HB1.out.alloc HB1.out.size _⟩
end Go.Proofs.Ytejmklfhcealnaa.F
