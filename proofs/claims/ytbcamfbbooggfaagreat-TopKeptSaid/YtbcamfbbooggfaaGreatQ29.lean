/- Part 29 of the proof: J6, J8. -/
import Derived.Test.YtbcamfbbooggfaaGreatQ28
import Derived.Test.YtbcamfbbooggfaaGreatQ07

section
/- A book checks and takes a fact of time. -/
set_option linter.unusedVariables false
set_option linter.unusedSimpArgs false
namespace Go.Proofs.YtbcamfbbooggfaaGreat.F
open Go.RowKit Go.Proofs.YtbcamfbbooggfaaGreatW.PrintWords Go.Maps
attribute [local go_sem ↓] Go.wp_at_zero Go.wp_at_succ

set_option maxRecDepth 20000 in
set_option maxHeartbeats 4000000 in
theorem NCheck_c (b fm sm : Nat) (w : World) (h : BK w b fm sm 0) : Calls Tryz.prog 53 #[.pointer (some ⟨b, 0, none⟩), .agg tickF] w fun e w' => e = .returned (.int .i64 0) ∧ Below w.heap.size w w' := by
  obtain ⟨W1, hW1⟩ : ∃ W1, (w.alloc (.cells #[.pointer (some ⟨b, 0, none⟩)] 94)).alloc (.cells tickF 103) = W1 := ⟨_, rfl⟩
  have hb1 : Below w.heap.size w W1 := by rw [← hW1]; exact ((Below.refl _ _).alloc (Nat.le_refl _) _).alloc (by simp) _
  have g1 : W1.heap[w.heap.size]? = some (.cells #[.pointer (some ⟨b, 0, none⟩)] 94 (0, 0)) := by rw [← hW1]; exact (Below.heap_alloc _ _ _ (by simp)).trans (heap_alloc_new _ _)
  have g2 : W1.heap[w.heap.size + 1]? = some (.cells tickF 103 (0, 0)) := by
    rw [← hW1]
    have := heap_alloc_new (w.alloc (.cells #[.pointer (some ⟨b, 0, none⟩)] 94)) (.cells tickF 103)
    simpa using this
  have h1 := h.below hb1
  have hz1 := hb1.size
  obtain ⟨gb, hgb⟩ : ∃ gb, w.heap.size = gb := ⟨_, rfl⟩
  have HGB := Lib.hid hgb
  rw [hgb] at g1 g2 hz1
  clear hgb
  have HQ := Lib.hid (fun (W : World) (hb : Below W1.heap.size W1 W) (j : Nat) (v : Value) (hv : tickF[j]? = some v) => (by
    rw [cell_of_row _ _ _ _ _ _ ((hb.block (gb + 1) (Array.getElem?_eq_some_iff.1 g2).1).trans g2)]; exact hv : W.cell? ⟨gb + 1, j, none⟩ = some v))
  have HQB := Lib.hid (fun (W : World) (hb : Below W1.heap.size W1 W) => (by
    rw [cell_of_row _ _ _ _ _ _ ((hb.block gb (Array.getElem?_eq_some_iff.1 g1).1).trans g1)]; rfl : W.cell? ⟨gb, 0, none⟩ = some (.pointer (some ⟨b, 0, none⟩))))
  have HBK := Lib.hid (fun (W : World) (hb : Below W1.heap.size W1 W) => h1.below hb)
  have hr := Below.refl W1.heap.size W1
  have f0 := HQ.out W1 hr 0 _ rfl
  have f1 := HQ.out W1 hr 1 _ rfl
  have f2 := HQ.out W1 hr 2 _ rfl
  have f3 := HQ.out W1 hr 3 _ rfl
  have f4 := HQ.out W1 hr 4 _ rfl
  have f5 := HQ.out W1 hr 5 _ rfl
  have f6 := HQ.out W1 hr 6 _ rfl
  have f7 := HQ.out W1 hr 7 _ rfl
  have f8 := HQ.out W1 hr 8 _ rfl
  have f9 := HQ.out W1 hr 9 _ rfl
  have f10 := HQ.out W1 hr 10 _ rfl
  have f11 := HQ.out W1 hr 11 _ rfl
  have f12 := HQ.out W1 hr 12 _ rfl
  have f13 := HQ.out W1 hr 13 _ rfl
  have kb := HQB.out W1 hr
  have HW1 := Lib.hid hW1
  have HB1 := Lib.hid hb1
  have HRC := Lib.hid (rfCheck_c W1)
  clear hr hW1 hb1 g1 g2 h h1
  go_enter Tryz.func53, Tryz.ntmps53
  go_wp2_with (first | (rw [HW1.out]) | (rw [HGB.out]))
  refine HRC.out.mono ?_
  rintro e w2 ⟨rfl, hb2⟩
  clear f0 f1 f2 f3 f4 f5 f6 f7 f8 f9 f10 f11 f12 f13 kb
  have hbd := hb2.trans ((Below.refl _ w2).drew.mono hb2.size)
  have kb := HQB.out w2.drew hbd
  have f4 := HQ.out w2.drew hbd 4 _ rfl
  obtain ⟨q1, q2, q3⟩ := HBK.out w2.drew hbd
  have ks : w2.drew.cell? ⟨b, 1, none⟩ = some (.map (some sm)) := by rw [cell_of_row _ _ _ _ _ _ q1]; rfl
  have hlk := look_empty w2.drew sm q3
  have HBD := Lib.hid hbd
  have HB2 := Lib.hid hb2
  have hz2 := hbd.size
  clear hb2 hbd q1 q2 q3 HRC
  go_wp2_with fail
  refine wp_region_late [0, 3, 5, 6] (fun w' => w'.cell? ⟨gb, 0, none⟩ = some (.pointer (some ⟨b, 0, none⟩)) ∧ w'.cell? ⟨b, 1, none⟩ = some (.map (some sm)) ∧ w'.cell? ⟨gb + 1, 4, none⟩ = some (.string ⟨#[]⟩) ∧ (Instr.lookup 142 (.map (some sm)) (.string ⟨#[]⟩) true).run Tryz.prog w' = .ok (.tuple #[.agg zeroShot, .bool false]) w') (by kernel_rfl) ⟨kb, ks, f4, hlk⟩ (fun hT => ?_)
  refine WL.take (i := 0) (v := ?_) rfl (by kernel_rfl) (by kernel_rfl) (by kernel_rfl) (by kernel_rfl) (fun _ _ _ h => h) (Or.inl ⟨by rfl, ?_⟩) (by assumption) ?_
  rotate_left 1
  · (intro w' hSw; (try (replace hSw := hSw (by decide); dsimp only at hSw)); go_split_ands; go_simp; try with_reducible rfl)
  simp only [Act.put, List.getElem_toArray, List.getElem_cons_zero, List.getElem_cons_succ, List.setIfInBounds_toArray, List.set_cons_zero, List.set_cons_succ]
  refine WL.take (i := 1) (v := ?_) rfl (by kernel_rfl) (by kernel_rfl) (by kernel_rfl) (by kernel_rfl) (fun _ _ _ h => h) (Or.inl ⟨by rfl, ?_⟩) (by assumption) ?_
  rotate_left 1
  · (intro w' hSw; (try (replace hSw := hSw (by decide); dsimp only at hSw)); go_split_ands; go_simp; try with_reducible rfl)
  simp only [Act.put, List.getElem_toArray, List.getElem_cons_zero, List.getElem_cons_succ, List.setIfInBounds_toArray, List.set_cons_zero, List.set_cons_succ]
  refine WL.take (i := 2) (v := ?_) rfl (by kernel_rfl) (by kernel_rfl) (by kernel_rfl) (by kernel_rfl) (fun _ _ _ h => h) (Or.inl ⟨by rfl, ?_⟩) (by assumption) ?_
  rotate_left 1
  · (intro w' hSw; (try (replace hSw := hSw (by decide); dsimp only at hSw)); go_split_ands; go_simp; try with_reducible rfl)
  simp only [Act.put, List.getElem_toArray, List.getElem_cons_zero, List.getElem_cons_succ, List.setIfInBounds_toArray, List.set_cons_zero, List.set_cons_succ]
  refine WL.take (i := 3) (v := ?_) rfl (by kernel_rfl) (by kernel_rfl) (by kernel_rfl) (by kernel_rfl) (fun _ _ _ h => h) (Or.inl ⟨by rfl, ?_⟩) (by assumption) ?_
  rotate_left 1
  · (intro w' hSw; (try (replace hSw := hSw (by decide); dsimp only at hSw)); go_split_ands; go_simp; try with_reducible rfl)
  simp only [Act.put, List.getElem_toArray, List.getElem_cons_zero, List.getElem_cons_succ, List.setIfInBounds_toArray, List.set_cons_zero, List.set_cons_succ]
  refine WL.take (i := 4) (v := ?_) rfl (by kernel_rfl) (by kernel_rfl) (by kernel_rfl) (by kernel_rfl) (fun _ _ _ h => h) (Or.inl ⟨by rfl, ?_⟩) (by assumption) ?_
  rotate_left 1
  · (intro w' hSw; (try (replace hSw := hSw (by decide); dsimp only at hSw)); go_split_ands; go_simp; try with_reducible rfl)
  simp only [Act.put, List.getElem_toArray, List.getElem_cons_zero, List.getElem_cons_succ, List.setIfInBounds_toArray, List.set_cons_zero, List.set_cons_succ]
  refine WL.take (i := 5) (v := ?_) rfl (by kernel_rfl) (by kernel_rfl) (by kernel_rfl) (by kernel_rfl) (fun _ _ _ h => h) (Or.inl ⟨by rfl, ?_⟩) (by assumption) ?_
  rotate_left 1
  · (intro w' hSw; (try (replace hSw := hSw (by decide); dsimp only at hSw)); go_split_ands; go_simp; try with_reducible rfl)
  simp only [Act.put, List.getElem_toArray, List.getElem_cons_zero, List.getElem_cons_succ, List.setIfInBounds_toArray, List.set_cons_zero, List.set_cons_succ]
  refine WL.take (i := 6) (v := ?_) rfl (by kernel_rfl) (by kernel_rfl) (by kernel_rfl) (by kernel_rfl) (fun _ _ _ h => h) (Or.inl ⟨by rfl, ?_⟩) (by assumption) ?_
  rotate_left 1
  · (intro w' hSw; (try (replace hSw := hSw (by decide); dsimp only at hSw)); go_split_ands; go_simp; try with_reducible rfl)
  simp only [Act.put, List.getElem_toArray, List.getElem_cons_zero, List.getElem_cons_succ, List.setIfInBounds_toArray, List.set_cons_zero, List.set_cons_succ]
  refine WL.take (i := 7) (v := ?_) rfl (by kernel_rfl) (by kernel_rfl) (by kernel_rfl) (by kernel_rfl) (fun _ _ _ h => h) (Or.inl ⟨by rfl, ?_⟩) (by assumption) ?_
  rotate_left 1
  · (intro w' hSw; (try (replace hSw := hSw (by decide); dsimp only at hSw)); go_split_ands; go_simp; try with_reducible rfl)
  simp only [Act.put, List.getElem_toArray, List.getElem_cons_zero, List.getElem_cons_succ, List.setIfInBounds_toArray, List.set_cons_zero, List.set_cons_succ]
  refine WL.take (i := 8) (v := ?_) rfl (by kernel_rfl) (by kernel_rfl) (by kernel_rfl) (by kernel_rfl) (fun _ _ _ h => h) (Or.inl ⟨by rfl, ?_⟩) (by assumption) ?_
  rotate_left 1
  · (intro w' hSw; (try (replace hSw := hSw (by decide); dsimp only at hSw)); go_split_ands; go_simp; try with_reducible rfl)
  simp only [Act.put, List.getElem_toArray, List.getElem_cons_zero, List.getElem_cons_succ, List.setIfInBounds_toArray, List.set_cons_zero, List.set_cons_succ]
  refine WL.take (i := 9) (v := ?_) rfl (by kernel_rfl) (by kernel_rfl) (by kernel_rfl) (by kernel_rfl) (fun _ _ _ h => h) (Or.inl ⟨by rfl, ?_⟩) (by assumption) ?_
  rotate_left 1
  · (intro w' hSw; (try (replace hSw := hSw (by decide); dsimp only at hSw)); go_split_ands; go_simp; try with_reducible rfl)
  simp only [Act.put, List.getElem_toArray, List.getElem_cons_zero, List.getElem_cons_succ, List.setIfInBounds_toArray, List.set_cons_zero, List.set_cons_succ]
  refine WL.one (i := 10) (by kernel_rfl) rfl (fun K hK => ?_)
  have hba := (Below.refl w2.drew.heap.size w2.drew).alloc (Nat.le_refl _) (.cells zeroShot 156)
  have hbx := HBD.out.trans (hba.mono hz2)
  have kba := HQB.out _ hbx
  have f4a := HQ.out _ hbx 4 _ rfl
  obtain ⟨a1, a2, a3⟩ := HBK.out _ hbx
  have ksa : (w2.drew.alloc (.cells zeroShot 156)).cell? ⟨b, 1, none⟩ = some (.map (some sm)) := by rw [cell_of_row _ _ _ _ _ _ a1]; rfl
  have hlka := look_empty _ sm a3
  have HTA := Lib.hid (show (w2.drew.alloc (.cells zeroShot 156)).cell? ⟨gb, 0, none⟩ = some (.pointer (some ⟨b, 0, none⟩)) ∧ (w2.drew.alloc (.cells zeroShot 156)).cell? ⟨b, 1, none⟩ = some (.map (some sm)) ∧ (w2.drew.alloc (.cells zeroShot 156)).cell? ⟨gb + 1, 4, none⟩ = some (.string ⟨#[]⟩) ∧ (Instr.lookup 142 (.map (some sm)) (.string ⟨#[]⟩) true).run Tryz.prog (w2.drew.alloc (.cells zeroShot 156)) = .ok (.tuple #[.agg zeroShot, .bool false]) (w2.drew.alloc (.cells zeroShot 156)) from ⟨kba, ksa, f4a, hlka⟩)
  clear hba hbx kba f4a a1 a2 a3 ksa hlka
  go_simp
  refine hK.out _ _ (fun _ => HTA.out) ?_
  clear hK K
  refine WL.late (i := 11) (by kernel_rfl) rfl (by kernel_rfl) (fun K hK => ?_)
  go_simp
  refine hK.out _ _ ?_
  clear hK K
  refine WL.late (i := 12) (by kernel_rfl) rfl (by kernel_rfl) (fun K hK => ?_)
  go_simp
  refine hK.out _ _ ?_
  clear hK K
  refine WL.done (by kernel_rfl) ?_ _
  clear hT kb f4 ks hlk HTA
  obtain ⟨W3, hW3⟩ : ∃ W3, (w2.alloc (.cells zeroShot 156)).drew = W3 := ⟨_, rfl⟩
  have hb23 : Below w2.heap.size w2 W3 := by rw [← hW3]; exact ((Below.refl _ _).alloc (Nat.le_refl _) _).drew
  have hb13 : Below W1.heap.size W1 W3 := by
    exact HB2.out.trans (hb23.mono HB2.out.size)
  dsimp only [zeroShot] at hW3
  rw [hW3]
  have hb3d := hb13.trans ((Below.refl _ W3).drew.mono hb13.size)
  have k0 := HQ.out W3 hb13 0 _ rfl
  have kb := HQB.out W3.drew hb3d
  have f6 := HQ.out W3.drew hb3d 6 _ rfl
  obtain ⟨q1, q2, q3⟩ := HBK.out W3.drew hb3d
  have kn : W3.drew.cell? ⟨b, 2, none⟩ = some (.int .i64 0) := by rw [cell_of_row _ _ _ _ _ _ q1]; rfl
  have HB3 := Lib.hid hb3d
  have hz3 := hb3d.size
  clear hW3 hb23 hb13 hb3d q1 q2 q3 HBD
  go_wp2_with fail
  refine wp_region_late [1, 2, 5] (fun w' => w'.cell? ⟨gb, 0, none⟩ = some (.pointer (some ⟨b, 0, none⟩)) ∧ w'.cell? ⟨b, 2, none⟩ = some (.int .i64 0) ∧ w'.cell? ⟨gb + 1, 6, none⟩ = some (.int .i64 1)) (by kernel_rfl) ⟨kb, kn, f6⟩ (fun hT => ?_)
  refine WL.take (i := 0) (v := ?_) rfl (by kernel_rfl) (by kernel_rfl) (by kernel_rfl) (by kernel_rfl) (fun _ _ _ h => h) (Or.inl ⟨by rfl, ?_⟩) (by assumption) ?_
  rotate_left 1
  · (intro w' hSw; (try (replace hSw := hSw (by decide); dsimp only at hSw)); go_split_ands; go_simp; try with_reducible rfl)
  simp only [Act.put, List.getElem_toArray, List.getElem_cons_zero, List.getElem_cons_succ, List.setIfInBounds_toArray, List.set_cons_zero, List.set_cons_succ]
  refine WL.take (i := 1) (v := ?_) rfl (by kernel_rfl) (by kernel_rfl) (by kernel_rfl) (by kernel_rfl) (fun _ _ _ h => h) (Or.inl ⟨by rfl, ?_⟩) (by assumption) ?_
  rotate_left 1
  · (intro w' hSw; (try (replace hSw := hSw (by decide); dsimp only at hSw)); go_split_ands; go_simp; try with_reducible rfl)
  simp only [Act.put, List.getElem_toArray, List.getElem_cons_zero, List.getElem_cons_succ, List.setIfInBounds_toArray, List.set_cons_zero, List.set_cons_succ]
  refine WL.take (i := 2) (v := ?_) rfl (by kernel_rfl) (by kernel_rfl) (by kernel_rfl) (by kernel_rfl) (fun _ _ _ h => h) (Or.inl ⟨by rfl, ?_⟩) (by assumption) ?_
  rotate_left 1
  · (intro w' hSw; (try (replace hSw := hSw (by decide); dsimp only at hSw)); go_split_ands; go_simp; try with_reducible rfl)
  simp only [Act.put, List.getElem_toArray, List.getElem_cons_zero, List.getElem_cons_succ, List.setIfInBounds_toArray, List.set_cons_zero, List.set_cons_succ]
  refine WL.take (i := 3) (v := ?_) rfl (by kernel_rfl) (by kernel_rfl) (by kernel_rfl) (by kernel_rfl) (fun _ _ _ h => h) (Or.inl ⟨by rfl, ?_⟩) (by assumption) ?_
  rotate_left 1
  · (intro w' hSw; (try (replace hSw := hSw (by decide); dsimp only at hSw)); go_split_ands; go_simp; try with_reducible rfl)
  simp only [Act.put, List.getElem_toArray, List.getElem_cons_zero, List.getElem_cons_succ, List.setIfInBounds_toArray, List.set_cons_zero, List.set_cons_succ]
  refine WL.take (i := 4) (v := ?_) rfl (by kernel_rfl) (by kernel_rfl) (by kernel_rfl) (by kernel_rfl) (fun _ _ _ h => h) (Or.inl ⟨by rfl, ?_⟩) (by assumption) ?_
  rotate_left 1
  · (intro w' hSw; (try (replace hSw := hSw (by decide); dsimp only at hSw)); go_split_ands; go_simp; try with_reducible rfl)
  simp only [Act.put, List.getElem_toArray, List.getElem_cons_zero, List.getElem_cons_succ, List.setIfInBounds_toArray, List.set_cons_zero, List.set_cons_succ]
  refine WL.take (i := 5) (v := ?_) rfl (by kernel_rfl) (by kernel_rfl) (by kernel_rfl) (by kernel_rfl) (fun _ _ _ h => h) (Or.inl ⟨by rfl, ?_⟩) (by assumption) ?_
  rotate_left 1
  · (intro w' hSw; (try (replace hSw := hSw (by decide); dsimp only at hSw)); go_split_ands; go_simp; try with_reducible rfl)
  simp only [Act.put, List.getElem_toArray, List.getElem_cons_zero, List.getElem_cons_succ, List.setIfInBounds_toArray, List.set_cons_zero, List.set_cons_succ]
  refine WL.take (i := 6) (v := ?_) rfl (by kernel_rfl) (by kernel_rfl) (by kernel_rfl) (by kernel_rfl) (fun _ _ _ h => h) (Or.inl ⟨by rfl, ?_⟩) (by assumption) ?_
  rotate_left 1
  · (intro w' hSw; (try (replace hSw := hSw (by decide); dsimp only at hSw)); go_split_ands; go_simp; try with_reducible rfl)
  simp only [Act.put, List.getElem_toArray, List.getElem_cons_zero, List.getElem_cons_succ, List.setIfInBounds_toArray, List.set_cons_zero, List.set_cons_succ]
  refine WL.late (i := 7) (by kernel_rfl) rfl (by kernel_rfl) (fun K hK => ?_)
  go_simp
  go_at_call 91
  refine (when_c _ _).mono ?_
  rintro e w4 ⟨rfl, hw⟩
  subst w4
  go_simp
  refine hK.out _ _ ?_
  clear hK K
  refine WL.late (i := 8) (by kernel_rfl) rfl (by kernel_rfl) (fun K hK => ?_)
  go_simp
  refine hK.out _ _ ?_
  clear hK K
  refine WL.late (i := 9) (by kernel_rfl) rfl (by kernel_rfl) (fun K hK => ?_)
  go_simp
  go_at_call 90
  refine (first_c W3.heap.size _ (by
    show (W3.alloc (.cells #[.int .i64 0] 31)).cell? ⟨W3.heap.size, 0, none⟩ = _
    rw [cell_of_row _ _ _ _ _ _ (heap_alloc_new _ _)]; rfl)).mono ?_
  rintro e w5 ⟨rfl, hw⟩
  subst w5
  have HBE := Lib.hid (HB1.out.trans ((HB3.out.trans (((Below.refl W3.drew.heap.size W3.drew).alloc (Nat.le_refl _) (.cells #[.int .i64 0] 31)).mono hz3)).mono HB1.out.size))
  go_simp
  refine hK.out _ _ ?_
  clear hK K
  refine WL.late (i := 10) (by kernel_rfl) rfl (by kernel_rfl) (fun K hK => ?_)
  go_simp
  refine hK.out _ _ ?_
  clear hK K
  refine WL.done (by kernel_rfl) ?_ _
  go_wp2_with fail
  go_ret
  exact ⟨rfl, HBE.out⟩
set_option maxRecDepth 20000 in
set_option maxHeartbeats 4000000 in
theorem NApply_c (b fm sm : Nat) (w : World) (h : BK w b fm sm 0) : Calls Tryz.prog 26 #[.pointer (some ⟨b, 0, none⟩), .agg tickF] w fun e w' => e = .returned (.int .i64 0) ∧ Gr (fun k => k = b) w w' := by
  obtain ⟨W1, hW1⟩ : ∃ W1, w.alloc (.cells tickF 103) = W1 := ⟨_, rfl⟩
  have hb1 : Below w.heap.size w W1 := by rw [← hW1]; exact (Below.refl _ _).alloc (Nat.le_refl _) _
  have g2 : W1.heap[w.heap.size]? = some (.cells tickF 103 (0, 0)) := by rw [← hW1]; exact heap_alloc_new _ _
  have h1 := h.below hb1
  obtain ⟨gf, hgf⟩ : ∃ gf, w.heap.size = gf := ⟨_, rfl⟩
  have HGF := Lib.hid hgf
  rw [hgf] at g2
  clear hgf
  have HQ := Lib.hid (fun (W : World) (hb : Below W1.heap.size W1 W) (j : Nat) (v : Value) (hv : tickF[j]? = some v) => (by
    rw [cell_of_row _ _ _ _ _ _ ((hb.block gf (Array.getElem?_eq_some_iff.1 g2).1).trans g2)]; exact hv : W.cell? ⟨gf, j, none⟩ = some v))
  have HBK := Lib.hid (fun (W : World) (hb : Below W1.heap.size W1 W) => h1.below hb)
  have hr := Below.refl W1.heap.size W1
  have f0 := HQ.out W1 hr 0 _ rfl
  have f1 := HQ.out W1 hr 1 _ rfl
  have f2 := HQ.out W1 hr 2 _ rfl
  have f3 := HQ.out W1 hr 3 _ rfl
  have f4 := HQ.out W1 hr 4 _ rfl
  have f5 := HQ.out W1 hr 5 _ rfl
  have f6 := HQ.out W1 hr 6 _ rfl
  have f7 := HQ.out W1 hr 7 _ rfl
  have f8 := HQ.out W1 hr 8 _ rfl
  have f9 := HQ.out W1 hr 9 _ rfl
  have f10 := HQ.out W1 hr 10 _ rfl
  have f11 := HQ.out W1 hr 11 _ rfl
  have f12 := HQ.out W1 hr 12 _ rfl
  have f13 := HQ.out W1 hr 13 _ rfl
  have HW1 := Lib.hid hW1
  have HB1 := Lib.hid hb1
  have HNC := Lib.hid (NCheck_c b fm sm W1 h1)
  clear hr hW1 hb1 g2 h h1
  go_enter Tryz.func26, Tryz.ntmps26
  go_wp2_with (first | (rw [HW1.out]) | (rw [HGF.out]))
  refine HNC.out.mono ?_
  rintro e w2 ⟨rfl, hb2⟩
  clear f0 f1 f2 f3 f4 f5 f6 f7 f8 f9 f10 f11 f12 f13
  have f0 := HQ.out w2 hb2 0 _ rfl
  have f6 := HQ.out w2 hb2 6 _ rfl
  obtain ⟨q1, q2, q3⟩ := HBK.out w2 hb2
  have kn : w2.cell? ⟨b, 2, none⟩ = some (.int .i64 0) := by rw [cell_of_row _ _ _ _ _ _ q1]; rfl
  have kf : w2.frozen? ⟨b, 2, none⟩ = false := frozen_of_row _ _ _ _ _ q1
  have HGR := Lib.hid (((Gr.of_below (fun k => k = b) HB1.out).trans (Gr.of_below (fun k => k = b) hb2) (fun x _ hx => hx)).trans (Gr.setCell (S := fun k => k = b) w2 ⟨b, 2, none⟩ (.int .i64 1) rfl) (fun x _ hx => hx))
  clear q1 q2 q3 hb2 HNC
  go_wp2_with fail
  go_ret
  exact ⟨rfl, HGR.out⟩
end Go.Proofs.YtbcamfbbooggfaaGreat.F
end

section
/- The sum of no bytes, round by round (printed by wip/gen/shaempty.py). -/
set_option linter.unusedVariables false
set_option linter.unusedSimpArgs false
namespace Go.Proofs.YtbcamfbbooggfaaGreat.F
open Go.RowKit

def blkE : List Nat := 128 :: List.replicate 63 0
theorem wstep {p : List Nat} {a b c d A B C D V : Nat} (t : Nat) (hlt : ¬ t < 16) (ha : wd p a = A) (hb : wd p b = B) (hc : wd p c = C) (hd : wd p d = D) (ea : t - 16 = a) (eb : t - 15 = b) (ec : t - 7 = c) (ed : t - 2 = d) (h : (A + sg0 B + C + sg1 D) % 4294967296 = V) : wd p t = V := by
  rw [wd_hi p t hlt, ea, eb, ec, ed, ha, hb, hc, hd]
  exact h
theorem rstep {s S S' : St} {p : List Nat} {t K W : Nat} (hr : rnds s p t = S) (hw : wd p t = W) (hk : Kw.getD t 0 = K) (h : rnd S K W = S') : rnds s p (t + 1) = S' := by
  show rnd (rnds s p t) (Kw.getD t 0) (wd p t) = S'
  rw [hr, hw, hk]
  exact h
theorem wE_0 : wd blkE 0 = 2147483648 := (wd_lo blkE 0 (by decide)).trans (by kernel_rfl)
theorem wE_1 : wd blkE 1 = 0 := (wd_lo blkE 1 (by decide)).trans (by kernel_rfl)
theorem wE_2 : wd blkE 2 = 0 := (wd_lo blkE 2 (by decide)).trans (by kernel_rfl)
theorem wE_3 : wd blkE 3 = 0 := (wd_lo blkE 3 (by decide)).trans (by kernel_rfl)
theorem wE_4 : wd blkE 4 = 0 := (wd_lo blkE 4 (by decide)).trans (by kernel_rfl)
theorem wE_5 : wd blkE 5 = 0 := (wd_lo blkE 5 (by decide)).trans (by kernel_rfl)
theorem wE_6 : wd blkE 6 = 0 := (wd_lo blkE 6 (by decide)).trans (by kernel_rfl)
theorem wE_7 : wd blkE 7 = 0 := (wd_lo blkE 7 (by decide)).trans (by kernel_rfl)
theorem wE_8 : wd blkE 8 = 0 := (wd_lo blkE 8 (by decide)).trans (by kernel_rfl)
theorem wE_9 : wd blkE 9 = 0 := (wd_lo blkE 9 (by decide)).trans (by kernel_rfl)
theorem wE_10 : wd blkE 10 = 0 := (wd_lo blkE 10 (by decide)).trans (by kernel_rfl)
theorem wE_11 : wd blkE 11 = 0 := (wd_lo blkE 11 (by decide)).trans (by kernel_rfl)
theorem wE_12 : wd blkE 12 = 0 := (wd_lo blkE 12 (by decide)).trans (by kernel_rfl)
theorem wE_13 : wd blkE 13 = 0 := (wd_lo blkE 13 (by decide)).trans (by kernel_rfl)
theorem wE_14 : wd blkE 14 = 0 := (wd_lo blkE 14 (by decide)).trans (by kernel_rfl)
theorem wE_15 : wd blkE 15 = 0 := (wd_lo blkE 15 (by decide)).trans (by kernel_rfl)
theorem wE_16 : wd blkE 16 = 2147483648 := wstep 16 (by decide) wE_0 wE_1 wE_9 wE_14 rfl rfl rfl rfl (by kernel_rfl)
theorem wE_17 : wd blkE 17 = 0 := wstep 17 (by decide) wE_1 wE_2 wE_10 wE_15 rfl rfl rfl rfl (by kernel_rfl)
theorem wE_18 : wd blkE 18 = 2117632 := wstep 18 (by decide) wE_2 wE_3 wE_11 wE_16 rfl rfl rfl rfl (by kernel_rfl)
theorem wE_19 : wd blkE 19 = 0 := wstep 19 (by decide) wE_3 wE_4 wE_12 wE_17 rfl rfl rfl rfl (by kernel_rfl)
theorem wE_20 : wd blkE 20 = 570427392 := wstep 20 (by decide) wE_4 wE_5 wE_13 wE_18 rfl rfl rfl rfl (by kernel_rfl)
theorem wE_21 : wd blkE 21 = 0 := wstep 21 (by decide) wE_5 wE_6 wE_14 wE_19 rfl rfl rfl rfl (by kernel_rfl)
theorem wE_22 : wd blkE 22 = 84448578 := wstep 22 (by decide) wE_6 wE_7 wE_15 wE_20 rfl rfl rfl rfl (by kernel_rfl)
theorem wE_23 : wd blkE 23 = 2147483648 := wstep 23 (by decide) wE_7 wE_8 wE_16 wE_21 rfl rfl rfl rfl (by kernel_rfl)
theorem wE_24 : wd blkE 24 = 1476919296 := wstep 24 (by decide) wE_8 wE_9 wE_17 wE_22 rfl rfl rfl rfl (by kernel_rfl)
theorem wE_25 : wd blkE 25 = 4235264 := wstep 25 (by decide) wE_9 wE_10 wE_18 wE_23 rfl rfl rfl rfl (by kernel_rfl)
theorem wE_26 : wd blkE 26 = 1451269 := wstep 26 (by decide) wE_10 wE_11 wE_19 wE_24 rfl rfl rfl rfl (by kernel_rfl)
theorem wE_27 : wd blkE 27 = 1711282176 := wstep 27 (by decide) wE_11 wE_12 wE_20 wE_25 rfl rfl rfl rfl (by kernel_rfl)
theorem wE_28 : wd blkE 28 = 3592562048 := wstep 28 (by decide) wE_12 wE_13 wE_21 wE_26 rfl rfl rfl rfl (by kernel_rfl)
theorem wE_29 : wd blkE 29 = 337794312 := wstep 29 (by decide) wE_13 wE_14 wE_22 wE_27 rfl rfl rfl rfl (by kernel_rfl)
theorem wE_30 : wd blkE 30 = 3594910044 := wstep 30 (by decide) wE_14 wE_15 wE_23 wE_28 rfl rfl rfl rfl (by kernel_rfl)
theorem wE_31 : wd blkE 31 = 3374850048 := wstep 31 (by decide) wE_15 wE_16 wE_24 wE_29 rfl rfl rfl rfl (by kernel_rfl)
theorem wE_32 : wd blkE 32 = 3287351444 := wstep 32 (by decide) wE_16 wE_17 wE_25 wE_30 rfl rfl rfl rfl (by kernel_rfl)
theorem wE_33 : wd blkE 33 = 676112230 := wstep 33 (by decide) wE_17 wE_18 wE_26 wE_31 rfl rfl rfl rfl (by kernel_rfl)
theorem wE_34 : wd blkE 34 = 109604294 := wstep 34 (by decide) wE_18 wE_19 wE_27 wE_32 rfl rfl rfl rfl (by kernel_rfl)
theorem wE_35 : wd blkE 35 = 2742808854 := wstep 35 (by decide) wE_19 wE_20 wE_28 wE_33 rfl rfl rfl rfl (by kernel_rfl)
theorem wE_36 : wd blkE 36 = 1904000662 := wstep 36 (by decide) wE_20 wE_21 wE_29 wE_34 rfl rfl rfl rfl (by kernel_rfl)
theorem wE_37 : wd blkE 37 = 4274181962 := wstep 37 (by decide) wE_21 wE_22 wE_30 wE_35 rfl rfl rfl rfl (by kernel_rfl)
theorem wE_38 : wd blkE 38 = 2813755136 := wstep 38 (by decide) wE_22 wE_23 wE_31 wE_36 rfl rfl rfl rfl (by kernel_rfl)
theorem wE_39 : wd blkE 39 = 2165675682 := wstep 39 (by decide) wE_23 wE_24 wE_32 wE_37 rfl rfl rfl rfl (by kernel_rfl)
theorem wE_40 : wd blkE 40 = 2561075048 := wstep 40 (by decide) wE_24 wE_25 wE_33 wE_38 rfl rfl rfl rfl (by kernel_rfl)
theorem wE_41 : wd blkE 41 = 62000258 := wstep 41 (by decide) wE_25 wE_26 wE_34 wE_39 rfl rfl rfl rfl (by kernel_rfl)
theorem wE_42 : wd blkE 42 = 1562224585 := wstep 42 (by decide) wE_26 wE_27 wE_35 wE_40 rfl rfl rfl rfl (by kernel_rfl)
theorem wE_43 : wd blkE 43 = 2975250741 := wstep 43 (by decide) wE_27 wE_28 wE_36 wE_41 rfl rfl rfl rfl (by kernel_rfl)
theorem wE_44 : wd blkE 44 = 3286092305 := wstep 44 (by decide) wE_28 wE_29 wE_37 wE_42 rfl rfl rfl rfl (by kernel_rfl)
theorem wE_45 : wd blkE 45 = 614207615 := wstep 45 (by decide) wE_29 wE_30 wE_38 wE_43 rfl rfl rfl rfl (by kernel_rfl)
theorem wE_46 : wd blkE 46 = 3297584367 := wstep 46 (by decide) wE_30 wE_31 wE_39 wE_44 rfl rfl rfl rfl (by kernel_rfl)
theorem wE_47 : wd blkE 47 = 1575308336 := wstep 47 (by decide) wE_31 wE_32 wE_40 wE_45 rfl rfl rfl rfl (by kernel_rfl)
theorem wE_48 : wd blkE 48 = 3741240933 := wstep 48 (by decide) wE_32 wE_33 wE_41 wE_46 rfl rfl rfl rfl (by kernel_rfl)
theorem wE_49 : wd blkE 49 = 748767245 := wstep 49 (by decide) wE_33 wE_34 wE_42 wE_47 rfl rfl rfl rfl (by kernel_rfl)
theorem wE_50 : wd blkE 50 = 1008022316 := wstep 50 (by decide) wE_34 wE_35 wE_43 wE_48 rfl rfl rfl rfl (by kernel_rfl)
theorem wE_51 : wd blkE 51 = 30329261 := wstep 51 (by decide) wE_35 wE_36 wE_44 wE_49 rfl rfl rfl rfl (by kernel_rfl)
theorem wE_52 : wd blkE 52 = 369937616 := wstep 52 (by decide) wE_36 wE_37 wE_45 wE_50 rfl rfl rfl rfl (by kernel_rfl)
theorem wE_53 : wd blkE 53 = 195877528 := wstep 53 (by decide) wE_37 wE_38 wE_46 wE_51 rfl rfl rfl rfl (by kernel_rfl)
theorem wE_54 : wd blkE 54 = 907775968 := wstep 54 (by decide) wE_38 wE_39 wE_47 wE_52 rfl rfl rfl rfl (by kernel_rfl)
theorem wE_55 : wd blkE 55 = 3526495142 := wstep 55 (by decide) wE_39 wE_40 wE_48 wE_53 rfl rfl rfl rfl (by kernel_rfl)
theorem wE_56 : wd blkE 56 = 43741191 := wstep 56 (by decide) wE_40 wE_41 wE_49 wE_54 rfl rfl rfl rfl (by kernel_rfl)
theorem wE_57 : wd blkE 57 = 1967544444 := wstep 57 (by decide) wE_41 wE_42 wE_50 wE_55 rfl rfl rfl rfl (by kernel_rfl)
theorem wE_58 : wd blkE 58 = 133517113 := wstep 58 (by decide) wE_42 wE_43 wE_51 wE_56 rfl rfl rfl rfl (by kernel_rfl)
theorem wE_59 : wd blkE 59 = 4161330627 := wstep 59 (by decide) wE_43 wE_44 wE_52 wE_57 rfl rfl rfl rfl (by kernel_rfl)
theorem wE_60 : wd blkE 60 = 3704256008 := wstep 60 (by decide) wE_44 wE_45 wE_53 wE_58 rfl rfl rfl rfl (by kernel_rfl)
theorem wE_61 : wd blkE 61 = 1581412744 := wstep 61 (by decide) wE_45 wE_46 wE_54 wE_59 rfl rfl rfl rfl (by kernel_rfl)
theorem wE_62 : wd blkE 62 = 1153231965 := wstep 62 (by decide) wE_46 wE_47 wE_55 wE_60 rfl rfl rfl rfl (by kernel_rfl)
theorem wE_63 : wd blkE 63 = 996066459 := wstep 63 (by decide) wE_47 wE_48 wE_56 wE_61 rfl rfl rfl rfl (by kernel_rfl)
theorem rE_0 : rnds beginS blkE 0 = ⟨1779033703, 3144134277, 1013904242, 2773480762, 1359893119, 2600822924, 528734635, 1541459225⟩ := rfl
theorem rE_1 : rnds beginS blkE 1 = ⟨2080933965, 1779033703, 3144134277, 1013904242, 415752866, 1359893119, 2600822924, 528734635⟩ := rstep rE_0 wE_0 (K := 1116352408) (by kernel_rfl) (by kernel_rfl)
theorem rE_2 : rnds beginS blkE 2 = ⟨2632279248, 2080933965, 1779033703, 3144134277, 536982102, 415752866, 1359893119, 2600822924⟩ := rstep rE_1 wE_1 (K := 1899447441) (by kernel_rfl) (by kernel_rfl)
theorem rE_3 : rnds beginS blkE 3 = ⟨3299628326, 2632279248, 2080933965, 1779033703, 1876632314, 536982102, 415752866, 1359893119⟩ := rstep rE_2 wE_2 (K := 3049323471) (by kernel_rfl) (by kernel_rfl)
theorem rE_4 : rnds beginS blkE 4 = ⟨1277422283, 3299628326, 2632279248, 2080933965, 808968629, 1876632314, 536982102, 415752866⟩ := rstep rE_3 wE_3 (K := 3921009573) (by kernel_rfl) (by kernel_rfl)
theorem rE_5 : rnds beginS blkE 5 = ⟨1130821424, 1277422283, 3299628326, 2632279248, 3889194014, 808968629, 1876632314, 536982102⟩ := rstep rE_4 wE_4 (K := 961987163) (by kernel_rfl) (by kernel_rfl)
theorem rE_6 : rnds beginS blkE 6 = ⟨690895682, 1130821424, 1277422283, 3299628326, 1332035834, 3889194014, 808968629, 1876632314⟩ := rstep rE_5 wE_5 (K := 1508970993) (by kernel_rfl) (by kernel_rfl)
theorem rE_7 : rnds beginS blkE 7 = ⟨4028650896, 690895682, 1130821424, 1277422283, 2196627567, 1332035834, 3889194014, 808968629⟩ := rstep rE_6 wE_6 (K := 2453635748) (by kernel_rfl) (by kernel_rfl)
theorem rE_8 : rnds beginS blkE 8 = ⟨2060825014, 4028650896, 690895682, 1130821424, 1408847307, 2196627567, 1332035834, 3889194014⟩ := rstep rE_7 wE_7 (K := 2870763221) (by kernel_rfl) (by kernel_rfl)
theorem rE_9 : rnds beginS blkE 9 = ⟨4113392549, 2060825014, 4028650896, 690895682, 2058339864, 1408847307, 2196627567, 1332035834⟩ := rstep rE_8 wE_8 (K := 3624381080) (by kernel_rfl) (by kernel_rfl)
theorem rE_10 : rnds beginS blkE 10 = ⟨4025007953, 4113392549, 2060825014, 4028650896, 1392976521, 2058339864, 1408847307, 2196627567⟩ := rstep rE_9 wE_9 (K := 310598401) (by kernel_rfl) (by kernel_rfl)
theorem rE_11 : rnds beginS blkE 11 = ⟨361478433, 4025007953, 4113392549, 2060825014, 3795207118, 1392976521, 2058339864, 1408847307⟩ := rstep rE_10 wE_10 (K := 607225278) (by kernel_rfl) (by kernel_rfl)
theorem rE_12 : rnds beginS blkE 12 = ⟨4114828352, 361478433, 4025007953, 4113392549, 3621813394, 3795207118, 1392976521, 2058339864⟩ := rstep rE_11 wE_11 (K := 1426881987) (by kernel_rfl) (by kernel_rfl)
theorem rE_13 : rnds beginS blkE 13 = ⟨553833165, 4114828352, 361478433, 4025007953, 3455974994, 3621813394, 3795207118, 1392976521⟩ := rstep rE_12 wE_12 (K := 1925078388) (by kernel_rfl) (by kernel_rfl)
theorem rE_14 : rnds beginS blkE 14 = ⟨1170215847, 553833165, 4114828352, 361478433, 725774998, 3455974994, 3621813394, 3795207118⟩ := rstep rE_13 wE_13 (K := 2162078206) (by kernel_rfl) (by kernel_rfl)
theorem rE_15 : rnds beginS blkE 15 = ⟨3096116699, 1170215847, 553833165, 4114828352, 483372089, 725774998, 3455974994, 3621813394⟩ := rstep rE_14 wE_14 (K := 2614888103) (by kernel_rfl) (by kernel_rfl)
theorem rE_16 : rnds beginS blkE 16 = ⟨3019933109, 3096116699, 1170215847, 553833165, 1555621987, 483372089, 725774998, 3455974994⟩ := rstep rE_15 wE_15 (K := 3248222580) (by kernel_rfl) (by kernel_rfl)
theorem rE_17 : rnds beginS blkE 17 = ⟨1192056138, 3019933109, 3096116699, 1170215847, 1892956839, 1555621987, 483372089, 725774998⟩ := rstep rE_16 wE_16 (K := 3835390401) (by kernel_rfl) (by kernel_rfl)
theorem rE_18 : rnds beginS blkE 18 = ⟨3717831211, 1192056138, 3019933109, 3096116699, 1619825619, 1892956839, 1555621987, 483372089⟩ := rstep rE_17 wE_17 (K := 4022224774) (by kernel_rfl) (by kernel_rfl)
theorem rE_19 : rnds beginS blkE 19 = ⟨812095850, 3717831211, 1192056138, 3019933109, 3550010602, 1619825619, 1892956839, 1555621987⟩ := rstep rE_18 wE_18 (K := 264347078) (by kernel_rfl) (by kernel_rfl)
theorem rE_20 : rnds beginS blkE 20 = ⟨172493064, 812095850, 3717831211, 1192056138, 2416781228, 3550010602, 1619825619, 1892956839⟩ := rstep rE_19 wE_19 (K := 604807628) (by kernel_rfl) (by kernel_rfl)
theorem rE_21 : rnds beginS blkE 21 = ⟨1976037592, 172493064, 812095850, 3717831211, 966081741, 2416781228, 3550010602, 1619825619⟩ := rstep rE_20 wE_20 (K := 770255983) (by kernel_rfl) (by kernel_rfl)
theorem rE_22 : rnds beginS blkE 22 = ⟨2577845017, 1976037592, 172493064, 812095850, 3263666206, 966081741, 2416781228, 3550010602⟩ := rstep rE_21 wE_21 (K := 1249150122) (by kernel_rfl) (by kernel_rfl)
theorem rE_23 : rnds beginS blkE 23 = ⟨1078820948, 2577845017, 1976037592, 172493064, 2976200464, 3263666206, 966081741, 2416781228⟩ := rstep rE_22 wE_22 (K := 1555081692) (by kernel_rfl) (by kernel_rfl)
theorem rE_24 : rnds beginS blkE 24 = ⟨2556161365, 1078820948, 2577845017, 1976037592, 741081741, 2976200464, 3263666206, 966081741⟩ := rstep rE_23 wE_23 (K := 1996064986) (by kernel_rfl) (by kernel_rfl)
theorem rE_25 : rnds beginS blkE 25 = ⟨2062996621, 2556161365, 1078820948, 2577845017, 4116679717, 741081741, 2976200464, 3263666206⟩ := rstep rE_24 wE_24 (K := 2554220882) (by kernel_rfl) (by kernel_rfl)
theorem rE_26 : rnds beginS blkE 26 = ⟨3317175470, 2062996621, 2556161365, 1078820948, 3850028020, 4116679717, 741081741, 2976200464⟩ := rstep rE_25 wE_25 (K := 2821834349) (by kernel_rfl) (by kernel_rfl)
theorem rE_27 : rnds beginS blkE 27 = ⟨747317945, 3317175470, 2062996621, 2556161365, 2677228163, 3850028020, 4116679717, 741081741⟩ := rstep rE_26 wE_26 (K := 2952996808) (by kernel_rfl) (by kernel_rfl)
theorem rE_28 : rnds beginS blkE 28 = ⟨1837942423, 747317945, 3317175470, 2062996621, 1726829818, 2677228163, 3850028020, 4116679717⟩ := rstep rE_27 wE_27 (K := 3210313671) (by kernel_rfl) (by kernel_rfl)
theorem rE_29 : rnds beginS blkE 29 = ⟨1690082844, 1837942423, 747317945, 3317175470, 2506713973, 1726829818, 2677228163, 3850028020⟩ := rstep rE_28 wE_28 (K := 3336571891) (by kernel_rfl) (by kernel_rfl)
theorem rE_30 : rnds beginS blkE 30 = ⟨1926471693, 1690082844, 1837942423, 747317945, 2957685293, 2506713973, 1726829818, 2677228163⟩ := rstep rE_29 wE_29 (K := 3584528711) (by kernel_rfl) (by kernel_rfl)
theorem rE_31 : rnds beginS blkE 31 = ⟨2696613087, 1926471693, 1690082844, 1837942423, 1447716390, 2957685293, 2506713973, 1726829818⟩ := rstep rE_30 wE_30 (K := 113926993) (by kernel_rfl) (by kernel_rfl)
theorem rE_32 : rnds beginS blkE 32 = ⟨300352095, 2696613087, 1926471693, 1690082844, 3151463532, 1447716390, 2957685293, 2506713973⟩ := rstep rE_31 wE_31 (K := 338241895) (by kernel_rfl) (by kernel_rfl)
theorem rE_33 : rnds beginS blkE 33 = ⟨3817927606, 300352095, 2696613087, 1926471693, 3436338571, 3151463532, 1447716390, 2957685293⟩ := rstep rE_32 wE_32 (K := 666307205) (by kernel_rfl) (by kernel_rfl)
theorem rE_34 : rnds beginS blkE 34 = ⟨2705438357, 3817927606, 300352095, 2696613087, 197416927, 3436338571, 3151463532, 1447716390⟩ := rstep rE_33 wE_33 (K := 773529912) (by kernel_rfl) (by kernel_rfl)
theorem rE_35 : rnds beginS blkE 35 = ⟨1151435175, 2705438357, 3817927606, 300352095, 1769188034, 197416927, 3436338571, 3151463532⟩ := rstep rE_34 wE_34 (K := 1294757372) (by kernel_rfl) (by kernel_rfl)
theorem rE_36 : rnds beginS blkE 36 = ⟨1679812728, 1151435175, 2705438357, 3817927606, 980442793, 1769188034, 197416927, 3436338571⟩ := rstep rE_35 wE_35 (K := 1396182291) (by kernel_rfl) (by kernel_rfl)
theorem rE_37 : rnds beginS blkE 37 = ⟨2694206301, 1679812728, 1151435175, 2705438357, 4206914285, 980442793, 1769188034, 197416927⟩ := rstep rE_36 wE_36 (K := 1695183700) (by kernel_rfl) (by kernel_rfl)
theorem rE_38 : rnds beginS blkE 38 = ⟨1457773646, 2694206301, 1679812728, 1151435175, 3892832895, 4206914285, 980442793, 1769188034⟩ := rstep rE_37 wE_37 (K := 1986661051) (by kernel_rfl) (by kernel_rfl)
theorem rE_39 : rnds beginS blkE 39 = ⟨2656625711, 1457773646, 2694206301, 1679812728, 2242319396, 3892832895, 4206914285, 980442793⟩ := rstep rE_38 wE_38 (K := 2177026350) (by kernel_rfl) (by kernel_rfl)
theorem rE_40 : rnds beginS blkE 40 = ⟨1234768305, 2656625711, 1457773646, 2694206301, 1902882853, 2242319396, 3892832895, 4206914285⟩ := rstep rE_39 wE_39 (K := 2456956037) (by kernel_rfl) (by kernel_rfl)
theorem rE_41 : rnds beginS blkE 41 = ⟨4270245939, 1234768305, 2656625711, 1457773646, 2224585183, 1902882853, 2242319396, 3892832895⟩ := rstep rE_40 wE_40 (K := 2730485921) (by kernel_rfl) (by kernel_rfl)
theorem rE_42 : rnds beginS blkE 42 = ⟨580450446, 4270245939, 1234768305, 2656625711, 4123364073, 2224585183, 1902882853, 2242319396⟩ := rstep rE_41 wE_41 (K := 2820302411) (by kernel_rfl) (by kernel_rfl)
theorem rE_43 : rnds beginS blkE 43 = ⟨3686090155, 580450446, 4270245939, 1234768305, 3762306745, 4123364073, 2224585183, 1902882853⟩ := rstep rE_42 wE_42 (K := 3259730800) (by kernel_rfl) (by kernel_rfl)
theorem rE_44 : rnds beginS blkE 44 = ⟨3907209042, 3686090155, 580450446, 4270245939, 692219050, 3762306745, 4123364073, 2224585183⟩ := rstep rE_43 wE_43 (K := 3345764771) (by kernel_rfl) (by kernel_rfl)
theorem rE_45 : rnds beginS blkE 45 = ⟨2752082644, 3907209042, 3686090155, 580450446, 2855016464, 692219050, 3762306745, 4123364073⟩ := rstep rE_44 wE_44 (K := 3516065817) (by kernel_rfl) (by kernel_rfl)
theorem rE_46 : rnds beginS blkE 46 = ⟨855262251, 2752082644, 3907209042, 3686090155, 3531982457, 2855016464, 692219050, 3762306745⟩ := rstep rE_45 wE_45 (K := 3600352804) (by kernel_rfl) (by kernel_rfl)
theorem rE_47 : rnds beginS blkE 47 = ⟨1419259244, 855262251, 2752082644, 3907209042, 2322236082, 3531982457, 2855016464, 692219050⟩ := rstep rE_46 wE_46 (K := 4094571909) (by kernel_rfl) (by kernel_rfl)
theorem rE_48 : rnds beginS blkE 48 = ⟨911881421, 1419259244, 855262251, 2752082644, 3417569515, 2322236082, 3531982457, 2855016464⟩ := rstep rE_47 wE_47 (K := 275423344) (by kernel_rfl) (by kernel_rfl)
theorem rE_49 : rnds beginS blkE 49 = ⟨1655188062, 911881421, 1419259244, 855262251, 1286303114, 3417569515, 2322236082, 3531982457⟩ := rstep rE_48 wE_48 (K := 430227734) (by kernel_rfl) (by kernel_rfl)
theorem rE_50 : rnds beginS blkE 50 = ⟨2543384045, 1655188062, 911881421, 1419259244, 3909789552, 1286303114, 3417569515, 2322236082⟩ := rstep rE_49 wE_49 (K := 506948616) (by kernel_rfl) (by kernel_rfl)
theorem rE_51 : rnds beginS blkE 51 = ⟨3244542753, 2543384045, 1655188062, 911881421, 906398686, 3909789552, 1286303114, 3417569515⟩ := rstep rE_50 wE_50 (K := 659060556) (by kernel_rfl) (by kernel_rfl)
theorem rE_52 : rnds beginS blkE 52 = ⟨3579709122, 3244542753, 2543384045, 1655188062, 2710884687, 906398686, 3909789552, 1286303114⟩ := rstep rE_51 wE_51 (K := 883997877) (by kernel_rfl) (by kernel_rfl)
theorem rE_53 : rnds beginS blkE 53 = ⟨2981272720, 3579709122, 3244542753, 2543384045, 1134943992, 2710884687, 906398686, 3909789552⟩ := rstep rE_52 wE_52 (K := 958139571) (by kernel_rfl) (by kernel_rfl)
theorem rE_54 : rnds beginS blkE 54 = ⟨974034039, 2981272720, 3579709122, 3244542753, 4254700398, 1134943992, 2710884687, 906398686⟩ := rstep rE_53 wE_53 (K := 1322822218) (by kernel_rfl) (by kernel_rfl)
theorem rE_55 : rnds beginS blkE 55 = ⟨749689034, 974034039, 2981272720, 3579709122, 3850954136, 4254700398, 1134943992, 2710884687⟩ := rstep rE_54 wE_54 (K := 1537002063) (by kernel_rfl) (by kernel_rfl)
theorem rE_56 : rnds beginS blkE 56 = ⟨23298068, 749689034, 974034039, 2981272720, 2918796810, 3850954136, 4254700398, 1134943992⟩ := rstep rE_55 wE_55 (K := 1747873779) (by kernel_rfl) (by kernel_rfl)
theorem rE_57 : rnds beginS blkE 57 = ⟨2126991890, 23298068, 749689034, 974034039, 2035393328, 2918796810, 3850954136, 4254700398⟩ := rstep rE_56 wE_56 (K := 1955562222) (by kernel_rfl) (by kernel_rfl)
theorem rE_58 : rnds beginS blkE 58 = ⟨3891021244, 2126991890, 23298068, 749689034, 3802734300, 2035393328, 2918796810, 3850954136⟩ := rstep rE_57 wE_57 (K := 2024104815) (by kernel_rfl) (by kernel_rfl)
theorem rE_59 : rnds beginS blkE 59 = ⟨3911429062, 3891021244, 2126991890, 23298068, 148956906, 3802734300, 2035393328, 2918796810⟩ := rstep rE_58 wE_58 (K := 2227730452) (by kernel_rfl) (by kernel_rfl)
theorem rE_60 : rnds beginS blkE 60 = ⟨71572494, 3911429062, 3891021244, 2126991890, 2867830852, 148956906, 3802734300, 2035393328⟩ := rstep rE_59 wE_59 (K := 2361852424) (by kernel_rfl) (by kernel_rfl)
theorem rE_61 : rnds beginS blkE 61 = ⟨4095722474, 71572494, 3911429062, 3891021244, 477227836, 2867830852, 148956906, 3802734300⟩ := rstep rE_60 wE_60 (K := 2428436474) (by kernel_rfl) (by kernel_rfl)
theorem rE_62 : rnds beginS blkE 62 = ⟨1586299222, 4095722474, 71572494, 3911429062, 2232532848, 477227836, 2867830852, 148956906⟩ := rstep rE_61 wE_61 (K := 2756734187) (by kernel_rfl) (by kernel_rfl)
theorem rE_63 : rnds beginS blkE 63 = ⟨3717492111, 1586299222, 4095722474, 71572494, 3382061760, 2232532848, 477227836, 2867830852⟩ := rstep rE_62 wE_62 (K := 3204031479) (by kernel_rfl) (by kernel_rfl)
theorem rE_64 : rnds beginS blkE 64 = ⟨2040978907, 3717492111, 1586299222, 4095722474, 3600805733, 3382061760, 2232532848, 477227836⟩ := rstep rE_63 wE_63 (K := 3329325298) (by kernel_rfl) (by kernel_rfl)
theorem blkE_eq : ((([] ++ padN 0).drop (64 * 0)).take 64 : List Nat) = blkE := by kernel_rfl
theorem mixE : mixes beginS ([] ++ padN 0) 1 = addS beginS ⟨2040978907, 3717492111, 1586299222, 4095722474, 3600805733, 3382061760, 2232532848, 477227836⟩ := by
  have h : mixes beginS ([] ++ padN 0) (0 + 1) = mixS (mixes beginS ([] ++ padN 0) 0) ((([] ++ padN 0).drop (64 * 0)).take 64) := rfl
  rw [blkE_eq] at h
  refine Eq.trans h ?_
  unfold mixS
  exact congrArg (addS beginS) rE_64
theorem shaE : shaB [] 0 = 227 := by
  show byteS (mixes beginS ([] ++ padN 0) 1) 0 = 227
  rw [mixE]
  kernel_rfl
end Go.Proofs.YtbcamfbbooggfaaGreat.F
end
