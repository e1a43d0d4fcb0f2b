/- A text's sum, by the program; what must be whatever is asked. -/
import Derived.Test.YtejmklfhcealnaaDu
import Derived.Test.YtejmklfhcealnaaDe
import Derived.Test.YtejmklfhcealnaaDc
set_option linter.unusedVariables false
set_option linter.unusedSimpArgs false
set_option maxRecDepth 20000
namespace Go.Proofs.Ytejmklfhcealnaa.F
open Go.RowKit Go.Proofs.YtejmklfhcealnaaW.PrintWords

theorem digSum_c (A : Option Addr) (c : Nat) (p : List Nat) (w : World) (hr : RN .u8 w A p) (hp : ∀ x ∈ p, x < 256) (hl : p.length ≤ 140737488355328) :
    Calls Try.prog 33 #[.slice A p.length c] w fun e w' => e = .returned (.agg (shaA p)) ∧ Below w.heap.size w w' := by
  have hz := zero32
  have i3 : (Try.prog.info? 36).map (·.size) = some (shaA p).size := by unfold shaA; rw [tabK_size]; exact info32
  have o3 : (shaA p).all (·.oneCell') = true := tabK_one _ _ _
  have s3 : zeros32.size = (shaA p).size := by unfold shaA zeros32; rw [tabK_size, tabK_size]
  obtain ⟨R, hR⟩ : ∃ R, shaA p = R := ⟨_, rfl⟩
  rw [hR] at i3 o3 s3
  have hB0 : Below w.heap.size w (w.alloc (.cells zeros32 36)) := (Below.refl _ _).alloc (Nat.le_refl _) _
  have hg : (w.alloc (.cells zeros32 36)).heap[w.heap.size]? = some (.cells zeros32 36 (0, 0)) := heap_alloc_new _ _
  obtain ⟨W0, hW0⟩ : ∃ W0, w.alloc (.cells zeros32 36) = W0 := ⟨_, rfl⟩
  have hs0 : W0.heap.size = w.heap.size + 1 := by rw [← hW0]; simp
  rw [hW0] at hB0 hg
  have HI := Lib.hid i3
  have HO := Lib.hid o3
  have HS := Lib.hid s3
  have HR := Lib.hid hR
  have HW0 := Lib.hid hW0
  have HG := Lib.hid hg
  have HRN := Lib.hid (hr.below hB0)
  clear i3 o3 s3 hR hW0 hg hr
  go_enter Try.func33, Try.ntmps33
  go_wp2_with fail
  rw [HW0.out]
  refine (NewH_c _).mono ?_
  rintro e w1 ⟨B, rfl, hB, hBl, hh, hb1⟩
  have HH := Lib.hid hh
  have HB1 := Lib.hid hb1
  have HR1 := Lib.hid (HRN.out.below hb1)
  clear hh hb1
  go_wp2_with fail
  have hwr := Write_c B beginS none 0 [] 0 A c p w1 beginS_ok HH.out (RN.nil _ _) (Nat.le_refl _) (fun _ => rfl) (by simp) HR1.out hp (by omega) (by simp; omega)
  simp only [List.nil_append, Nat.zero_add] at hwr
  refine hwr.mono ?_
  rintro e w2 ⟨rfl, C, c2, h2, hr2, hc2, hn2, hC2, hb2⟩
  have H2 := Lib.hid h2
  have HR2 := Lib.hid hr2
  have HN2 := Lib.hid hn2
  have HB2 := Lib.hid hb2
  clear h2 hr2 hn2 hC2 hb2 hwr
  go_wp2_with fail
  refine (SumH_c B p C c2 w2 H2.out HR2.out hc2 HN2.out hp (by omega)).mono ?_
  rintro e w3 ⟨rfl, hb3⟩
  rw [HR.out]
  have hb03 : Below w.heap.size w w3 := by
    have h1 : Below W0.heap.size W0 w1 := HB1.out
    have h2 : Below w.heap.size w1 w2 := (HB2.out.mono (by have := h1.size; omega)).below (by omega)
    exact ((hB0.trans (h1.mono hB0.size)).trans h2).trans (hb3.mono (by have := h1.size; have := h2.size; omega))
  have hg3 : w3.heap[w.heap.size]? = some (.cells zeros32 36 (0, 0)) := by
    have h1 : Below W0.heap.size W0 w1 := HB1.out
    have e1 := h1.size
    have e2 := HB2.out.size
    rw [hb3.block _ (by omega), HB2.out.block _ (by omega) (by omega), h1.block _ (by omega)]
    exact HG.out
  have HB03 := Lib.hid hb03
  have HG3 := Lib.hid hg3
  clear hb03 hg3 hb3
  go_wp2_with (refine wpList_store_row rfl 36 (.tmp 2) (.tmp 9) rfl w.heap.size rfl R zeros32 rfl 36 HG3.out HI.out HS.out HO.out ?_)
  (try simp only [Exit.inBlock, Exit.then])
  exact bodyPost_ret (v := .agg R) (results_cell_row rfl _ _ w.heap.size 36 R (0, 0) _ rfl (setRow_heap _ _ _ _ _ _ HG3.out) Try.underlying36 rfl HI.out) rfl ⟨by rw [HR.out], below_setRow HB03.out (Nat.le_refl _) _⟩
end Go.Proofs.Ytejmklfhcealnaa.F
