/- A hash forked, walked. -/
import Derived.Test.YtdmkfdealedgoaaDg
set_option linter.unusedVariables false
set_option linter.unusedSimpArgs false
namespace Go.Proofs.Ytdmkfdealedgoaa.F
open Go.RowKit Go.Proofs.YtdmkfdealedgoaaW.PrintWords

theorem Fork_c (B : Nat) (s : St) (C : Option Addr) (c : Nat) (xs : List Nat) (n : Nat) (W : World) (h : HB W B s (.slice C xs.length c) n) (hC : RN .u8 W C xs) (hcc : xs.length ≤ c) (hCn : C = none → c = 0) (hl : xs.length ≤ 140737488355328) :
    Calls Try.prog 19 #[.pointer (some ⟨B, 0, none⟩)] W fun e W' => ∃ B' C' c', e = .returned (.pointer (some ⟨B', 0, none⟩)) ∧ W.heap.size ≤ B' ∧ HB W' B' s (.slice C' xs.length c') n ∧ RN .u8 W' C' xs ∧ xs.length ≤ c' ∧ (C' = none → c' = 0) ∧ Below W.heap.size W W' := by
  obtain ⟨q0, q1, q2, q3, q4, q5, q6, q7, q8, q9⟩ := h.cells
  have hBl := h.lt
  have hbA : Below W.heap.size W (W.alloc (.cells #[.int .u32 s.a, .int .u32 s.b, .int .u32 s.c, .int .u32 s.d, .int .u32 s.e, .int .u32 s.f, .int .u32 s.g, .int .u32 s.h, .slice C xs.length c, .int .i64 n] 52)) := (Below.refl _ _).alloc (Nat.le_refl _) _
  have hn : HB (W.alloc (.cells #[.int .u32 s.a, .int .u32 s.b, .int .u32 s.c, .int .u32 s.d, .int .u32 s.e, .int .u32 s.f, .int .u32 s.g, .int .u32 s.h, .slice C xs.length c, .int .i64 n] 52)) W.heap.size s (.slice C xs.length c) n := heap_alloc_new _ _
  obtain ⟨W1, hW1⟩ : ∃ W1, W.alloc (.cells #[.int .u32 s.a, .int .u32 s.b, .int .u32 s.c, .int .u32 s.d, .int .u32 s.e, .int .u32 s.f, .int .u32 s.g, .int .u32 s.h, .slice C xs.length c, .int .i64 n] 52) = W1 := ⟨_, rfl⟩
  have k8 : (W.alloc (.cells #[.int .u32 s.a, .int .u32 s.b, .int .u32 s.c, .int .u32 s.d, .int .u32 s.e, .int .u32 s.f, .int .u32 s.g, .int .u32 s.h, .slice C xs.length c, .int .i64 n] 52)).cell? ⟨B, 8, none⟩ = some (.slice C xs.length c) := (h.below hbA).cells.2.2.2.2.2.2.2.2.1
  rw [hW1] at hbA hn
  have HW1 := Lib.hid hW1
  have HN := Lib.hid hn
  have HBA := Lib.hid hbA
  have HC := Lib.hid (hC.below hbA)
  clear h hC hW1 hn hbA
  go_enter Try.func19, Try.ntmps19
  go_wp2_with fail
  rw [HW1.out]
  refine (Clone_c C c xs _ HC.out hcc hl hCn).mono ?_
  rintro e w2 ⟨v2, rfl, ho2, hb2⟩
  obtain ⟨C2, c2, rfl, hc2, hn2, _, hr2⟩ := ho2.form
  have h2 := HN.out.below hb2
  have z8 := h2.free 8
  have y8 := h2.cells.2.2.2.2.2.2.2.2.1
  have h3 := h2.rest (.slice C2 xs.length c2)
  have hr3 := hr2.apart h2 (W' := w2.setCell ⟨W.heap.size, 8, none⟩ (.slice C2 xs.length c2)) (fun k hk hb => heap_setCell_other _ _ _ _ hb)
  have hb3 : Below W.heap.size W (w2.setCell ⟨W.heap.size, 8, none⟩ (.slice C2 xs.length c2)) := (HBA.out.trans (hb2.mono HBA.out.size)).setCell (Nat.le_refl _) _
  have H3 := Lib.hid h3
  have HR3 := Lib.hid hr3
  have HB3 := Lib.hid hb3
  clear h3 hr3 hb3 h2 hb2 ho2 hr2
  go_wp2_with fail
  go_ret
  exact ⟨W.heap.size, C2, c2, rfl, Nat.le_refl _, H3.out, HR3.out, hc2, hn2, HB3.out⟩
end Go.Proofs.Ytdmkfdealedgoaa.F
