/- A cutter forked; a nil cutter. -/
import Derived.Test.YtbckibjpaiealaaGq
set_option linter.unusedVariables false
set_option linter.unusedSimpArgs false
namespace Go.Proofs.Ytbckibjpaiealaa.F
open Go.RowKit Go.Proofs.YtbckibjpaiealaaW.PrintWords

theorem WriteG_nil (v : Value) (w : World) :
    Calls Try.prog 20 #[.pointer none, v] w fun e w' => e = .returned (.tuple #[.slice none 0 0, .int .i64 1]) ∧ Below w.heap.size w w' := by
  have hb : Below w.heap.size w (w.alloc (.cells #[.pointer none] 42)) := (Below.refl _ _).alloc (Nat.le_refl _) _
  have HB := Lib.hid hb
  clear hb
  go_enter Try.func20, Try.ntmps20
  go_wp2_with fail
  go_ret2
  exact ⟨rfl, HB.out⟩
theorem EndG_nil (w : World) :
    Calls Try.prog 22 #[.pointer none] w fun e w' => e = .returned (.tuple #[.slice none 0 0, .int .i64 1]) ∧ w' = w := by
  go_enter Try.func22, Try.ntmps22
  go_wp2_with fail
  go_ret2
  exact ⟨rfl, rfl⟩
theorem HeldG_nil (w : World) :
    Calls Try.prog 21 #[.pointer none] w fun e w' => e = .returned (.int .i64 0) ∧ w' = w := by
  go_enter Try.func21, Try.ntmps21
  go_wp2_with fail
  go_ret
  exact ⟨rfl, rfl⟩
theorem ForkG_nil (w : World) :
    Calls Try.prog 23 #[.pointer none] w fun e w' => e = .returned (.pointer none) ∧ w' = w := by
  go_enter Try.func23, Try.ntmps23
  go_wp2_with fail
  go_ret
  exact ⟨rfl, rfl⟩
theorem zeroC : ∀ W : World, Sem.run Try.prog (zeroValue 54) W = .ok (.agg zC) W := fun _ => by kernel_rfl
theorem infoC : (Try.prog.info? 54).map (·.size) = some 262 := by kernel_rfl
theorem cuA_one {mn av mx : Nat} {tb : List Nat} {v : Value} {h : Nat} {en : Bool} (hv : v.oneCell' = true) : (cuA mn av mx tb v h en).all (·.oneCell') = true := by
  unfold cuA
  simp [encN, Value.oneCell']
  cases v <;> first | rfl | (simp [Value.oneCell'] at hv)
set_option maxRecDepth 20000 in
theorem ForkG_c (W : World) (base0 B : Nat) (mn av mx : Nat) (tb : List Nat) (hv : Value) (xs : List Nat) (h : Nat) (en : Bool) (ht : tb.length = 256)
    (hc : CU W B mn av mx tb hv h en) (ho : OwnN .u8 5 W base0 hv xs) (hl : xs.length ≤ 140737488355328) :
    Calls Try.prog 23 #[.pointer (some ⟨B, 0, none⟩)] W fun e w' =>
      ∃ B' hv', e = .returned (.pointer (some ⟨B', 0, none⟩)) ∧ W.heap.size ≤ B' ∧ CU w' B' mn av mx tb hv' h en ∧ OwnN .u8 5 w' W.heap.size hv' xs ∧ Below W.heap.size W w' := by
  obtain ⟨A0, c0, rfl, hc0, hr0, hA0⟩ := ho.form
  have hz := zeroC
  have hB := hc.lt
  have hcs := hc
  have ho1 : (cuA mn av mx tb (.slice A0 xs.length c0) h en).all (·.oneCell') = true := cuA_one rfl
  have hsz : zC.size = (cuA mn av mx tb (.slice A0 xs.length c0) h en).size := by rw [cuA_size ht, zC_size]
  have hi : (Try.prog.info? 54).map (·.size) = some (cuA mn av mx tb (.slice A0 xs.length c0) h en).size := by rw [cuA_size ht]; exact infoC
  unfold CU at hcs
  obtain ⟨cc, hcc⟩ : ∃ cc, cuA mn av mx tb (.slice A0 xs.length c0) h en = cc := ⟨_, rfl⟩
  rw [hcc] at hcs ho1 hsz hi
  have hn : (W.alloc (.cells zC 54)).heap[W.heap.size]? = some (.cells zC 54 (0, 0)) := heap_alloc_new _ _
  obtain ⟨W1, hW1⟩ : ∃ W1, (W.alloc (.cells zC 54)).setRow W.heap.size cc = W1 := ⟨_, rfl⟩
  have hb1 : Below W.heap.size W W1 := by rw [← hW1]; exact below_setRow ((Below.refl _ _).alloc (Nat.le_refl _) _) (Nat.le_refl _) _
  have hf1 : CU W1 W.heap.size mn av mx tb (.slice A0 xs.length c0) h en := by unfold CU; rw [hcc, ← hW1]; exact setRow_heap _ _ _ _ _ _ hn
  have hc1 := hc.move (hb1.block B hB)
  have k1 := hc1.gHeld ht
  have HCS := Lib.hid hcs
  have HO1 := Lib.hid ho1
  have HSZ := Lib.hid hsz
  have HI := Lib.hid hi
  have HN := Lib.hid hn
  have HW1 := Lib.hid hW1
  have HB1 := Lib.hid hb1
  have HF1 := Lib.hid hf1
  have HR1 := Lib.hid (hr0.below hb1)
  clear hcs ho1 hsz hi hn hW1 hb1 hf1 hc1 hr0 ho hc hcc
  go_enter Try.func23, Try.ntmps23
  go_wp2_with (first | (rw [HW1.out]) | (refine wpList_store_row rfl 54 (.tmp 3) (.tmp 8) rfl W.heap.size rfl cc zC rfl 54 HN.out HI.out HSZ.out HO1.out ?_) | refine wpList_load_row rfl 54 (.tmp 7) rfl B rfl 54 cc (0, 0) _ HCS.out Try.underlying54 rfl HI.out ?_)
  refine (Clone_c A0 c0 xs _ HR1.out hc0 hl hA0).mono ?_
  rintro e w2 ⟨v2, rfl, ho2, hb2⟩
  obtain ⟨A2, c2, rfl, hc2, hr2, hA2⟩ := ho2.form
  have hs1 := HB1.out.size
  have hs2 := hb2.size
  have hBl : W.heap.size < W1.heap.size := HF1.out.lt
  have hf2 := HF1.out.move (hb2.block _ hBl)
  have z2 := hf2.frozen 259
  have j2 := hf2.gHeld ht
  have hf3 := hf2.setHeld ht (.slice A2 xs.length c2)
  have ho3 : OwnN .u8 5 (w2.setCell ⟨W.heap.size, 259, none⟩ (.slice A2 xs.length c2)) W.heap.size (.slice A2 xs.length c2) xs := (ho2.lower hs1).move (fun k hk => Deep.blk_setCell_other _ _ _ _ (fun e => by
    have e2 : k = W.heap.size := e
    have := (ho2.typed k hk).1
    omega))
  have hb3 : Below W.heap.size W (w2.setCell ⟨W.heap.size, 259, none⟩ (.slice A2 xs.length c2)) := (HB1.out.trans (hb2.mono hs1)).setCell (Nat.le_refl _) _
  have HF3 := Lib.hid hf3
  have HO3 := Lib.hid ho3
  have HB3 := Lib.hid hb3
  clear hf2 hf3 ho3 hb3 ho2 hb2 hr2
  go_wp2_with fail
  go_ret
  exact ⟨W.heap.size, (.slice A2 xs.length c2), rfl, Nat.le_refl _, HF3.out, HO3.out, HB3.out⟩
end Go.Proofs.Ytbckibjpaiealaa.F
