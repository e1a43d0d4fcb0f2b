/- Part 26 of the proof: H6, H7, H8. -/
import Derived.Test.YtbcamfbbooggfaaGreatQ25

section
/- A shelf claims a container that lies there. -/
set_option linter.unusedVariables false
set_option linter.unusedSimpArgs false
namespace Go.Proofs.YtbcamfbbooggfaaGreat.F
open Go.RowKit Go.Proofs.YtbcamfbbooggfaaGreatW.PrintWords Go.Maps
attribute [local go_sem ↓] Go.wp_at_zero Go.wp_at_succ

set_option maxRecDepth 20000 in
set_option maxHeartbeats 4000000 in
theorem BClaim_c {db er rb s base bn at0 N : Nat} {l l' : List Rn} {m : List (Nat × Sec × List Nat)} (w : World)
    (hs : SH w s db er rb m) (he : EM w base er 0 4096 l) (hbase : base ≤ w.heap.size) (hk : lk m bn = none) (hbn : bn < 4096) (hN : 2 ≤ N ∧ N ≤ 64) (hat : at0 ≤ 4096)
    (ht : claimF 0 4096 l (at0 : Int) (N : Int) = (0, l')) (hll : l.length ≤ 10000) (hlr : ∀ r ∈ l, r.1 + r.2 ≤ 4096) :
    Calls Tryz.prog 18 #[.pointer (some ⟨s, 0, none⟩), .agg #[.int .i64 (bn : Nat), .int .i64 (at0 : Nat), .int .i64 (N : Nat)]] w fun e w' => e = .returned (.int .i64 0) ∧
      SH w' s db er rb ((bn, (at0, N), []) :: without m bn) ∧ EM w' base er 0 4096 l' ∧ Gr (fun k => k = er ∨ k = rb) w w' := by
  obtain ⟨W1, hW1⟩ : ∃ W1, w.alloc (.cells #[.int .i64 (bn : Nat), .int .i64 (at0 : Nat), .int .i64 (N : Nat)] 53) = W1 := ⟨_, rfl⟩
  have hb1 : Below w.heap.size w W1 := by rw [← hW1]; exact (Below.refl _ _).alloc (Nat.le_refl _) _
  have hg1 : W1.heap[w.heap.size]? = some (.cells #[.int .i64 (bn : Nat), .int .i64 (at0 : Nat), .int .i64 (N : Nat)] 53 (0, 0)) := by rw [← hW1]; exact heap_alloc_new _ _
  have hz1 := hb1.size
  have hgl := (Array.getElem?_eq_some_iff.1 hg1).1
  have hs1 := hs.below hb1
  have he1 := he.below hb1
  have HKN := Lib.hid (known_c bn W1 hs1 (by omega))
  rw [hk] at HKN
  have d1 : decide ((bn : Int) < 0) = false := decide_eq_false (by omega)
  have d2 : decide ((4096 : Int) ≤ (bn : Int)) = false := decide_eq_false (by omega)
  have d2' : decide (4096 ≤ bn) = false := decide_eq_false (by omega)
  have d3 : decide ((N : Int) < 2) = false := decide_eq_false (by omega)
  have d3' : decide (N < 2) = false := decide_eq_false (by omega)
  have d4 : decide ((64 : Int) < (N : Int)) = false := decide_eq_false (by omega)
  have d4' : decide (64 < N) = false := decide_eq_false (by omega)
  obtain ⟨g3, hg3⟩ : ∃ g3, w.heap.size = g3 := ⟨_, rfl⟩
  have HG3 := Lib.hid hg3
  have HZ := Lib.hid (show w.heap.size ≤ g3 by omega)
  have hgrw : w.heap.size < W1.heap.size := hgl
  rw [hg3] at hg1 hgl hz1 hbase
  clear hg3
  have c0 : W1.cell? ⟨g3, 0, none⟩ = some (.int .i64 (bn : Nat)) := by rw [cell_of_row _ _ _ _ _ _ hg1]; rfl
  have c1 : W1.cell? ⟨g3, 1, none⟩ = some (.int .i64 (at0 : Nat)) := by rw [cell_of_row _ _ _ _ _ _ hg1]; rfl
  have c2 : W1.cell? ⟨g3, 2, none⟩ = some (.int .i64 (N : Nat)) := by rw [cell_of_row _ _ _ _ _ _ hg1]; rfl
  have HW1 := Lib.hid hW1
  have HB1 := Lib.hid hb1
  have HG1 := Lib.hid hg1
  have HS1 := Lib.hid hs1
  have HE1 := Lib.hid he1
  have HT := Lib.hid ht
  have HLL := Lib.hid hll
  have HLR := Lib.hid hlr
  clear hs he hW1 hb1 hg1 hs1 he1 ht hll hlr hk
  go_enter Tryz.func18, Tryz.ntmps18
  go_wp2_with (first | (rw [HW1.out]) | (rw [HG3.out]))
  refine HKN.out.mono ?_
  rintro e w5 ⟨rfl, hb5⟩
  simp only [Option.isSome_none]
  have hb5d := hb5.trans ((Below.refl _ w5).drew.mono hb5.size)
  have hs5 := HS1.out.below hb5d
  have he5 := HE1.out.below hb5d
  have hg5 : w5.drew.heap[g3]? = _ := (hb5d.block g3 (by omega)).trans HG1.out
  have HTK := Lib.hid (Claim_c base er 0 4096 l (at0 : Int) (N : Int) w5.drew he5 (by have := hb5d.size; omega) HLR.out HLL.out (by omega) (by omega))
  rw [HT.out] at HTK
  obtain ⟨k50, k51, k52⟩ := hs5.cells
  have k70 : w5.drew.cell? ⟨g3, 1, none⟩ = some (.int .i64 (at0 : Nat)) := by rw [cell_of_row _ _ _ _ _ _ hg5]; rfl
  have k71 : w5.drew.cell? ⟨g3, 2, none⟩ = some (.int .i64 (N : Nat)) := by rw [cell_of_row _ _ _ _ _ _ hg5]; rfl
  have HS5 := Lib.hid hs5
  have HE5 := Lib.hid he5
  have HG5 := Lib.hid hg5
  have HB15 := Lib.hid hb5d
  clear hs5 he5 hg5 hb5 hb5d HKN HS1 HE1 HG1
  go_wp2_with fail
  refine wp_region_late [4, 6] (fun w' => w'.cell? ⟨s, 1, none⟩ = some (.pointer (some ⟨er, 0, none⟩)) ∧ w'.cell? ⟨g3, 1, none⟩ = some (.int .i64 (at0 : Nat)) ∧ w'.cell? ⟨g3, 2, none⟩ = some (.int .i64 (N : Nat))) (by kernel_rfl) ⟨k51, k70, k71⟩ (fun hT => ?_)
  refine WL.take (i := 0) (v := ?_) rfl (by kernel_rfl) (by kernel_rfl) (by kernel_rfl) (by kernel_rfl) (fun _ _ _ h => h) (Or.inl ⟨by rfl, ?_⟩) (by assumption) ?_
  rotate_left 1
  · (intro w' hSw; (try (replace hSw := hSw (by decide); dsimp only at hSw)); go_split_ands; go_simp; try with_reducible rfl)
  simp only [Act.put, List.getElem_toArray, List.getElem_cons_zero, List.getElem_cons_succ, List.setIfInBounds_toArray, List.set_cons_zero, List.set_cons_succ]
  refine WL.take (i := 1) (v := ?_) rfl (by kernel_rfl) (by kernel_rfl) (by kernel_rfl) (by kernel_rfl) (fun _ _ _ h => h) (Or.inl ⟨by rfl, ?_⟩) (by assumption) ?_
  rotate_left 1
  · (intro w' hSw; (try (replace hSw := hSw (by decide); dsimp only at hSw)); go_split_ands; go_simp; try with_reducible rfl)
  simp only [Act.put, List.getElem_toArray, List.getElem_cons_zero, List.getElem_cons_succ, List.setIfInBounds_toArray, List.set_cons_zero, List.set_cons_succ]
  refine WL.take (i := 2) (v := ?_) rfl (by kernel_rfl) (by kernel_rfl) (by kernel_rfl) (by kernel_rfl) (fun _ _ _ h => h) (Or.inl ⟨by rfl, ?_⟩) (by assumption) ?_
  rotate_left 1
  · (intro w' hSw; (try (replace hSw := hSw (by decide); dsimp only at hSw)); go_split_ands; go_simp; try with_reducible rfl)
  simp only [Act.put, List.getElem_toArray, List.getElem_cons_zero, List.getElem_cons_succ, List.setIfInBounds_toArray, List.set_cons_zero, List.set_cons_succ]
  refine WL.take (i := 3) (v := ?_) rfl (by kernel_rfl) (by kernel_rfl) (by kernel_rfl) (by kernel_rfl) (fun _ _ _ h => h) (Or.inl ⟨by rfl, ?_⟩) (by assumption) ?_
  rotate_left 1
  · (intro w' hSw; (try (replace hSw := hSw (by decide); dsimp only at hSw)); go_split_ands; go_simp; try with_reducible rfl)
  simp only [Act.put, List.getElem_toArray, List.getElem_cons_zero, List.getElem_cons_succ, List.setIfInBounds_toArray, List.set_cons_zero, List.set_cons_succ]
  refine WL.take (i := 4) (v := ?_) rfl (by kernel_rfl) (by kernel_rfl) (by kernel_rfl) (by kernel_rfl) (fun _ _ _ h => h) (Or.inl ⟨by rfl, ?_⟩) (by assumption) ?_
  rotate_left 1
  · (intro w' hSw; (try (replace hSw := hSw (by decide); dsimp only at hSw)); go_split_ands; go_simp; try with_reducible rfl)
  simp only [Act.put, List.getElem_toArray, List.getElem_cons_zero, List.getElem_cons_succ, List.setIfInBounds_toArray, List.set_cons_zero, List.set_cons_succ]
  refine WL.take (i := 5) (v := ?_) rfl (by kernel_rfl) (by kernel_rfl) (by kernel_rfl) (by kernel_rfl) (fun _ _ _ h => h) (Or.inl ⟨by rfl, ?_⟩) (by assumption) ?_
  rotate_left 1
  · (intro w' hSw; (try (replace hSw := hSw (by decide); dsimp only at hSw)); go_split_ands; go_simp; try with_reducible rfl)
  simp only [Act.put, List.getElem_toArray, List.getElem_cons_zero, List.getElem_cons_succ, List.setIfInBounds_toArray, List.set_cons_zero, List.set_cons_succ]
  refine WL.take (i := 6) (v := ?_) rfl (by kernel_rfl) (by kernel_rfl) (by kernel_rfl) (by kernel_rfl) (fun _ _ _ h => h) (Or.inl ⟨by rfl, ?_⟩) (by assumption) ?_
  rotate_left 1
  · (intro w' hSw; (try (replace hSw := hSw (by decide); dsimp only at hSw)); go_split_ands; go_simp; try with_reducible rfl)
  simp only [Act.put, List.getElem_toArray, List.getElem_cons_zero, List.getElem_cons_succ, List.setIfInBounds_toArray, List.set_cons_zero, List.set_cons_succ]
  refine WL.late (i := 7) (by kernel_rfl) rfl (by kernel_rfl) (fun K hK => ?_)
  go_simp
  go_at_call 45
  refine HTK.out.mono ?_
  rintro e w6 ⟨rfl, he6, hg6⟩
  obtain ⟨ecs, ex, ety⟩ := HE5.out.typed
  have hs6 := HS5.out.er HE5.out hg6
  have hz6 := hg6.size
  have hg36 : w6.heap[g3]? = some (.cells #[.int .i64 (bn : Nat), .int .i64 (at0 : Nat), .int .i64 (N : Nat)] 53 (0, 0)) := (hg6.block g3 (Array.getElem?_eq_some_iff.1 HG5.out).1 (cells_ne HG5.out ety (by decide))).trans HG5.out
  obtain ⟨k60, k61, k62⟩ := hs6.cells
  have e0 : w6.cell? ⟨g3, 0, none⟩ = some (.int .i64 (bn : Nat)) := by rw [cell_of_row _ _ _ _ _ _ hg36]; rfl
  have e1 : w6.cell? ⟨g3, 1, none⟩ = some (.int .i64 (at0 : Nat)) := by rw [cell_of_row _ _ _ _ _ _ hg36]; rfl
  have e2 : w6.cell? ⟨g3, 2, none⟩ = some (.int .i64 (N : Nat)) := by rw [cell_of_row _ _ _ _ _ _ hg36]; rfl
  have hT6 : w6.cell? ⟨s, 1, none⟩ = some (.pointer (some ⟨er, 0, none⟩)) ∧ w6.cell? ⟨g3, 1, none⟩ = some (.int .i64 (at0 : Nat)) ∧ w6.cell? ⟨g3, 2, none⟩ = some (.int .i64 (N : Nat)) := ⟨k61, e1, e2⟩
  have HGR6 := Lib.hid (((Gr.of_below (fun k => k = er ∨ k = rb) HB1.out).trans (Gr.of_below (fun k => k = er ∨ k = rb) HB15.out) (fun x _ hx => hx)).trans hg6 (fun x _ hx => .inl hx))
  have HS6 := Lib.hid hs6
  have HE6 := Lib.hid he6
  clear hs6 he6 hg36 hg6 HTK HS5 HE5 HG5 HB15 ety
  go_simp
  refine hK.out _ _ ?_
  clear hK K
  refine WL.take (i := 8) (v := ?_) rfl (by kernel_rfl) (by kernel_rfl) (by kernel_rfl) (by kernel_rfl) (fun _ _ _ h => h) (Or.inl ⟨by rfl, ?_⟩) (by assumption) ?_
  rotate_left 1
  · (intro w' hSw; (try (replace hSw := hSw (by decide); dsimp only at hSw)); go_split_ands; go_simp; try with_reducible rfl)
  simp only [Act.put, List.getElem_toArray, List.getElem_cons_zero, List.getElem_cons_succ, List.setIfInBounds_toArray, List.set_cons_zero, List.set_cons_succ]
  refine WL.done (by kernel_rfl) ?_ _
  have hbd := (Below.refl w6.heap.size w6).drew
  have hs9 := HS6.out.below hbd
  have he9 := HE6.out.below hbd
  obtain ⟨D, hown, hD⟩ := hs9.map
  have hsz := hD.small hs9.small
  have hkey := keyOfI bn (by omega)
  have HS9 := Lib.hid hs9
  have HE9 := Lib.hid he9
  have HOWN := Lib.hid hown
  have HDD := Lib.hid hD
  clear hbd hs9 he9 hown hD hT hT6 c0 c1 c2 k50 k51 k52 k70 k71
  go_wp2_with fail
  refine wp_region_late [3, 5, 7] (fun w' => w'.cell? ⟨s, 2, none⟩ = some (.map (some rb)) ∧ w'.cell? ⟨g3, 0, none⟩ = some (.int .i64 (bn : Nat)) ∧ w'.cell? ⟨g3, 1, none⟩ = some (.int .i64 (at0 : Nat)) ∧ w'.cell? ⟨g3, 2, none⟩ = some (.int .i64 (N : Nat))) (by kernel_rfl) ⟨k62, e0, e1, e2⟩ (fun hT => ?_)
  refine WL.take (i := 0) (v := ?_) rfl (by kernel_rfl) (by kernel_rfl) (by kernel_rfl) (by kernel_rfl) (fun _ _ _ h => h) (Or.inl ⟨by rfl, ?_⟩) (by assumption) ?_
  rotate_left 1
  · (intro w' hSw; (try (replace hSw := hSw (by decide); dsimp only at hSw)); go_split_ands; go_simp; try with_reducible rfl)
  simp only [Act.put, List.getElem_toArray, List.getElem_cons_zero, List.getElem_cons_succ, List.setIfInBounds_toArray, List.set_cons_zero, List.set_cons_succ]
  refine WL.take (i := 1) (v := ?_) rfl (by kernel_rfl) (by kernel_rfl) (by kernel_rfl) (by kernel_rfl) (fun _ _ _ h => h) (Or.inl ⟨by rfl, ?_⟩) (by assumption) ?_
  rotate_left 1
  · (intro w' hSw; (try (replace hSw := hSw (by decide); dsimp only at hSw)); go_split_ands; go_simp; try with_reducible rfl)
  simp only [Act.put, List.getElem_toArray, List.getElem_cons_zero, List.getElem_cons_succ, List.setIfInBounds_toArray, List.set_cons_zero, List.set_cons_succ]
  refine WL.take (i := 2) (v := ?_) rfl (by kernel_rfl) (by kernel_rfl) (by kernel_rfl) (by kernel_rfl) (fun _ _ _ h => h) (Or.inl ⟨by rfl, ?_⟩) (by assumption) ?_
  rotate_left 1
  · (intro w' hSw; (try (replace hSw := hSw (by decide); dsimp only at hSw)); go_split_ands; go_simp; try with_reducible rfl)
  simp only [Act.put, List.getElem_toArray, List.getElem_cons_zero, List.getElem_cons_succ, List.setIfInBounds_toArray, List.set_cons_zero, List.set_cons_succ]
  refine WL.take (i := 3) (v := ?_) rfl (by kernel_rfl) (by kernel_rfl) (by kernel_rfl) (by kernel_rfl) (fun _ _ _ h => h) (Or.inl ⟨by rfl, ?_⟩) (by assumption) ?_
  rotate_left 1
  · (intro w' hSw; (try (replace hSw := hSw (by decide); dsimp only at hSw)); go_split_ands; go_simp; try with_reducible rfl)
  simp only [Act.put, List.getElem_toArray, List.getElem_cons_zero, List.getElem_cons_succ, List.setIfInBounds_toArray, List.set_cons_zero, List.set_cons_succ]
  refine WL.take (i := 4) (v := ?_) rfl (by kernel_rfl) (by kernel_rfl) (by kernel_rfl) (by kernel_rfl) (fun _ _ _ h => h) (Or.inl ⟨by rfl, ?_⟩) (by assumption) ?_
  rotate_left 1
  · (intro w' hSw; (try (replace hSw := hSw (by decide); dsimp only at hSw)); go_split_ands; go_simp; try with_reducible rfl)
  simp only [Act.put, List.getElem_toArray, List.getElem_cons_zero, List.getElem_cons_succ, List.setIfInBounds_toArray, List.set_cons_zero, List.set_cons_succ]
  refine WL.take (i := 5) (v := ?_) rfl (by kernel_rfl) (by kernel_rfl) (by kernel_rfl) (by kernel_rfl) (fun _ _ _ h => h) (Or.inl ⟨by rfl, ?_⟩) (by assumption) ?_
  rotate_left 1
  · (intro w' hSw; (try (replace hSw := hSw (by decide); dsimp only at hSw)); go_split_ands; go_simp; try with_reducible rfl)
  simp only [Act.put, List.getElem_toArray, List.getElem_cons_zero, List.getElem_cons_succ, List.setIfInBounds_toArray, List.set_cons_zero, List.set_cons_succ]
  refine WL.take (i := 6) (v := ?_) rfl (by kernel_rfl) (by kernel_rfl) (by kernel_rfl) (by kernel_rfl) (fun _ _ _ h => h) (Or.inl ⟨by rfl, ?_⟩) (by assumption) ?_
  rotate_left 1
  · (intro w' hSw; (try (replace hSw := hSw (by decide); dsimp only at hSw)); go_split_ands; go_simp; try with_reducible rfl)
  simp only [Act.put, List.getElem_toArray, List.getElem_cons_zero, List.getElem_cons_succ, List.setIfInBounds_toArray, List.set_cons_zero, List.set_cons_succ]
  refine WL.take (i := 7) (v := ?_) rfl (by kernel_rfl) (by kernel_rfl) (by kernel_rfl) (by kernel_rfl) (fun _ _ _ h => h) (Or.inl ⟨by rfl, ?_⟩) (by assumption) ?_
  rotate_left 1
  · (intro w' hSw; (try (replace hSw := hSw (by decide); dsimp only at hSw)); go_split_ands; go_simp; try with_reducible rfl)
  simp only [Act.put, List.getElem_toArray, List.getElem_cons_zero, List.getElem_cons_succ, List.setIfInBounds_toArray, List.set_cons_zero, List.set_cons_succ]
  refine WL.late (i := 8) (by kernel_rfl) rfl (by kernel_rfl) (fun K hK => ?_)
  rw [if_pos (by rfl)]
  refine wp_mapUpdate_at (.tmp 49) (.tmp 51) (.tmp 53) 91 (by rfl) 3 51 lawK Tryz.underlying91 rdRun rb (Maps.size D) D (by rfl) (w := w6.drew) HOWN.out (by unfold maxLen; omega) (.int .i64 (bn : Nat)) (runV (at0, N)) (.int .i64 (bn : Nat)) (by rfl) (by rfl) hkey (secD (at0, N)) [] (rdRun_mk _) ?_
  intro w10 hown10 hturn10
  have hg10 := hturn10.grown
  have hgr10 := gr_grown hg10
  have hs10 := HS9.out.putR hg10 hown10 (HDD.out.put bn ((at0, N), [])) hbn
  have he10 := HE9.out.rb HS9.out hgr10
  have HGR10 := Lib.hid ((HGR6.out.trans (Gr.of_below (fun k => k = er ∨ k = rb) (Below.refl _ w6).drew) (fun x _ hx => hx)).trans hgr10 (fun x _ hx => .inr hx))
  have HS10 := Lib.hid hs10
  have HE10 := Lib.hid he10
  clear hown10 hturn10 hg10 hgr10 hs10 he10 hT HS9 HE9 HOWN HDD HS6 HE6 HGR6 k60 k61 k62 e0 e1 e2
  refine hK.out _ _ ?_
  clear hK K
  refine WL.done (by kernel_rfl) ?_ _
  go_wp2_with fail
  go_ret
  exact ⟨rfl, HS10.out, HE10.out, HGR10.out⟩
end Go.Proofs.YtbcamfbbooggfaaGreat.F
end

section
/- A container is read whole. -/
set_option linter.unusedVariables false
set_option linter.unusedSimpArgs false
namespace Go.Proofs.YtbcamfbbooggfaaGreat.F
open Go.RowKit Go.Proofs.YtbcamfbbooggfaaGreatW.PrintWords Go.Maps
attribute [local go_sem ↓] Go.wp_at_zero Go.wp_at_succ

theorem results_tct {P : Program} {fn : Func} {p u v : Tmp} {ty : TypeId} (h : fn.results = #[.tmp u, .cell p ty, .tmp v]) (tmps : Array Value) (w : World) (g : Nat) (t : TypeId) (cs : Array Value) (fr : Nat × Nat) (d : TypeDesc)
    (hp : tmps.getD p undef = .pointer (some ⟨g, 0, none⟩)) (hg : w.heap[g]? = some (.cells cs t fr))
    (hu : P.underlying ty = some d) (hd : (match d with | .struct _ | .array _ _ => true | _ => false) = true) (hi : (P.info? ty).map (·.size) = some cs.size) :
    (results fn tmps).run P w = .ok (.tuple #[tmps.getD u undef, .agg cs, tmps.getD v undef]) w := by
  have hp' : tmps[p]?.getD undef = .pointer (some ⟨g, 0, none⟩) := by simpa using hp
  simp [results, h, hp', asAddr, run_loadVar_row w g t ty cs fr d hg hu hd hi]
theorem wf_run (W : World) (rb : Nat) (k : Nat) (r : Sec) (n : Nat) (D : DataW Unit) (hown : W.ownsMap Tryz.prog 3 rdRun rb n D) (hk : k ≤ 1000000) (hat : ∀ z, D.atKey (.int .i64 (k : Nat)) z = secD r) :
    (Instr.lookup 91 (.map (some rb)) (.int .i64 (k : Nat)) false).run Tryz.prog W = .ok (.agg #[.int .i64 (r.1 : Nat), .int .i64 (r.2 : Nat)]) W := by
  obtain ⟨v, ps, hrun, hv⟩ := hown.lookup lawK Tryz.underlying91 (zeroRun _) (rdRun_mk _) (keyOfI k hk)
  rw [hat] at hv
  obtain rfl := rdRun_inv hv
  exact hrun
/-- What a container's reading answers. -/
def WholeAns (bn : Nat) (bs : List Nat) (N : Nat) (sl : List Sl) (w : World) (e : Ending) (w' : World) : Prop :=
  ∃ A c A3 c3, e = .returned (.tuple #[.slice A bs.length c, .agg #[.int .i64 (bn : Nat), .int .i64 (N : Nat), .slice A3 sl.length c3], .int .i64 0]) ∧ RN .u8 w' A bs ∧ bs.length ≤ c ∧ RV 117 w' A3 sl.length (flatS sl) ∧ Below w.heap.size w w'
set_option maxRecDepth 20000 in
set_option maxHeartbeats 4000000 in
theorem BWhole_c {db gs mb er rb s n bn at0 N : Nat} {sb : List (List Nat)} {dm : List (Nat × Sec × List Nat)} {trip : Int} {life : Nat} {m : List (Nat × Sec × List Nat)} {x : List Nat} {sl : List Sl} {bs : List Nat} {M : Nat} (w : World)
    (hd : DK w db gs mb n sb dm trip false life) (hs : SH w s db er rb m) (hk : lk m bn = some ((at0, N), x)) (hat : at0 + N ≤ n) (hbs : secsN sb dm at0 N = bs) (hp : parseP bs = (0, bn, M, sl)) (hlt : ∀ x ∈ bs, x < 256) :
    Calls Tryz.prog 50 #[.pointer (some ⟨s, 0, none⟩), .int .i64 (bn : Nat)] w (WholeAns bn bs M sl w) := by
  obtain ⟨W1, hW1⟩ : ∃ W1, w.alloc (.cells #[.int .i64 0, .int .i64 0, .slice none 0 0] 107) = W1 := ⟨_, rfl⟩
  have hb1 : Below w.heap.size w W1 := by rw [← hW1]; exact (Below.refl _ _).alloc (Nat.le_refl _) _
  have hg1 : W1.heap[w.heap.size]? = some (.cells #[.int .i64 0, .int .i64 0, .slice none 0 0] 107 (0, 0)) := by rw [← hW1]; exact heap_alloc_new _ _
  have hz1 := hb1.size
  have hgl := (Array.getElem?_eq_some_iff.1 hg1).1
  have hs1 := hs.below hb1
  have hd1 := hd.below hb1
  have hsl : ∀ W' : World, W1.heap.size ≤ W'.heap.size → s < W'.heap.size := fun W' h => by have := hs1.lt.1; omega
  have hbn : bn < 4096 := hs.small _ (lk_mem hk)
  have HKN := Lib.hid (known_c bn W1 hs1 (by omega))
  rw [hk] at HKN
  have HW1 := Lib.hid hW1
  have HB1 := Lib.hid hb1
  have HG1 := Lib.hid hg1
  have HS1 := Lib.hid hs1
  have HD1 := Lib.hid hd1
  have HP := Lib.hid hp
  have HBS := Lib.hid hbs
  have HLT := Lib.hid hlt
  have HK := Lib.hid hk
  clear hs hd hW1 hb1 hg1 hs1 hd1 hk hbs hp hlt
  obtain ⟨g5, hg5⟩ : ∃ g5, w.heap.size = g5 := ⟨_, rfl⟩
  have HG5 := Lib.hid hg5
  rw [hg5] at hgl hz1
  clear hg5
  go_enter Tryz.func50, Tryz.ntmps50
  go_wp2_with (first | (rw [HW1.out]) | (rw [HG5.out]))
  refine HKN.out.mono ?_
  rintro e w2 ⟨rfl, hb2⟩
  simp only [Option.isSome_some]
  have hbd := hb2.trans ((Below.refl _ w2).drew.mono hb2.size)
  have hz2 := hbd.size
  have hs2 := HS1.out.below hbd
  have hd2 := HD1.out.below hbd
  obtain ⟨q0, q1, q2⟩ := hs2.cells
  obtain ⟨D, hown, hD⟩ := hs2.map
  have hlook := wf_run w2.drew rb bn (at0, N) _ D hown (by omega) ((hD.2.2.2 bn).2 _ HK.out)
  have HRD := Lib.hid (GRead_c s at0 N w2.drew hd2 q0 hs2.lt.1 hat)
  rw [HBS.out] at HRD
  have HB2 := Lib.hid hbd
  have HLK := Lib.hid (fun W' (h : Below w2.drew.heap.size w2.drew W') => wf_run W' rb bn (at0, N) _ D (hown.kept (row := none) (grown_of_below h none) (by simp)) (by omega) ((hD.2.2.2 bn).2 _ HK.out))
  clear hb2 hbd hs2 hd2 hown hD HKN HD1 HS1
  go_wp2_with fail
  refine wp_region_late [6, 8] (fun w' => w'.cell? ⟨s, 2, none⟩ = some (.map (some rb)) ∧ (Instr.lookup 91 (.map (some rb)) (.int .i64 (bn : Nat)) false).run Tryz.prog w' = .ok (.agg #[.int .i64 (at0 : Nat), .int .i64 (N : Nat)]) w') (by kernel_rfl) ⟨q2, hlook⟩ (fun hT => ?_)
  refine WL.take (i := 0) (v := ?_) rfl (by kernel_rfl) (by kernel_rfl) (by kernel_rfl) (by kernel_rfl) (fun _ _ _ h => h) (Or.inl ⟨by rfl, ?_⟩) (by assumption) ?_
  rotate_left 1
  · (intro w' hSw; (try (replace hSw := hSw (by decide); dsimp only at hSw)); go_split_ands; go_simp; try with_reducible rfl)
  simp only [Act.put, List.getElem_toArray, List.getElem_cons_zero, List.getElem_cons_succ, List.setIfInBounds_toArray, List.set_cons_zero, List.set_cons_succ]
  refine WL.take (i := 1) (v := ?_) rfl (by kernel_rfl) (by kernel_rfl) (by kernel_rfl) (by kernel_rfl) (fun _ _ _ h => h) (Or.inl ⟨by rfl, ?_⟩) (by assumption) ?_
  rotate_left 1
  · (intro w' hSw; (try (replace hSw := hSw (by decide); dsimp only at hSw)); go_split_ands; go_simp; try with_reducible rfl)
  simp only [Act.put, List.getElem_toArray, List.getElem_cons_zero, List.getElem_cons_succ, List.setIfInBounds_toArray, List.set_cons_zero, List.set_cons_succ]
  refine WL.take (i := 2) (v := ?_) rfl (by kernel_rfl) (by kernel_rfl) (by kernel_rfl) (by kernel_rfl) (fun _ _ _ h => h) (Or.inl ⟨by rfl, ?_⟩) (by assumption) ?_
  rotate_left 1
  · (intro w' hSw; (try (replace hSw := hSw (by decide); dsimp only at hSw)); go_split_ands; go_simp; try with_reducible rfl)
  simp only [Act.put, List.getElem_toArray, List.getElem_cons_zero, List.getElem_cons_succ, List.setIfInBounds_toArray, List.set_cons_zero, List.set_cons_succ]
  refine WL.take (i := 3) (v := ?_) rfl (by kernel_rfl) (by kernel_rfl) (by kernel_rfl) (by kernel_rfl) (fun _ _ _ h => h) (Or.inl ⟨by rfl, ?_⟩) (by assumption) ?_
  rotate_left 1
  · (intro w' hSw; (try (replace hSw := hSw (by decide); dsimp only at hSw)); go_split_ands; go_simp; try with_reducible rfl)
  simp only [Act.put, List.getElem_toArray, List.getElem_cons_zero, List.getElem_cons_succ, List.setIfInBounds_toArray, List.set_cons_zero, List.set_cons_succ]
  refine WL.take (i := 4) (v := ?_) rfl (by kernel_rfl) (by kernel_rfl) (by kernel_rfl) (by kernel_rfl) (fun _ _ _ h => h) (Or.inl ⟨by rfl, ?_⟩) (by assumption) ?_
  rotate_left 1
  · (intro w' hSw; (try (replace hSw := hSw (by decide); dsimp only at hSw)); go_split_ands; go_simp; try with_reducible rfl)
  simp only [Act.put, List.getElem_toArray, List.getElem_cons_zero, List.getElem_cons_succ, List.setIfInBounds_toArray, List.set_cons_zero, List.set_cons_succ]
  refine WL.take (i := 5) (v := ?_) rfl (by kernel_rfl) (by kernel_rfl) (by kernel_rfl) (by kernel_rfl) (fun _ _ _ h => h) (Or.inl ⟨by rfl, ?_⟩) (by assumption) ?_
  rotate_left 1
  · (intro w' hSw; (try (replace hSw := hSw (by decide); dsimp only at hSw)); go_split_ands; go_simp; try with_reducible rfl)
  simp only [Act.put, List.getElem_toArray, List.getElem_cons_zero, List.getElem_cons_succ, List.setIfInBounds_toArray, List.set_cons_zero, List.set_cons_succ]
  refine WL.take (i := 6) (v := ?_) rfl (by kernel_rfl) (by kernel_rfl) (by kernel_rfl) (by kernel_rfl) (fun _ _ _ h => h) (Or.inl ⟨by rfl, ?_⟩) (by assumption) ?_
  rotate_left 1
  · (intro w' hSw; (try (replace hSw := hSw (by decide); dsimp only at hSw)); go_split_ands; go_simp; try with_reducible rfl)
  simp only [Act.put, List.getElem_toArray, List.getElem_cons_zero, List.getElem_cons_succ, List.setIfInBounds_toArray, List.set_cons_zero, List.set_cons_succ]
  refine WL.take (i := 7) (v := ?_) rfl (by kernel_rfl) (by kernel_rfl) (by kernel_rfl) (by kernel_rfl) (fun _ _ _ h => h) (Or.inl ⟨by rfl, ?_⟩) (by assumption) ?_
  rotate_left 1
  · (intro w' hSw; (try (replace hSw := hSw (by decide); dsimp only at hSw)); go_split_ands; go_simp; try with_reducible rfl)
  simp only [Act.put, List.getElem_toArray, List.getElem_cons_zero, List.getElem_cons_succ, List.setIfInBounds_toArray, List.set_cons_zero, List.set_cons_succ]
  refine WL.take (i := 8) (v := ?_) rfl (by kernel_rfl) (by kernel_rfl) (by kernel_rfl) (by kernel_rfl) (fun _ _ _ h => h) (Or.inl ⟨by rfl, ?_⟩) (by assumption) ?_
  rotate_left 1
  · (intro w' hSw; (try (replace hSw := hSw (by decide); dsimp only at hSw)); go_split_ands; go_simp; try with_reducible rfl)
  simp only [Act.put, List.getElem_toArray, List.getElem_cons_zero, List.getElem_cons_succ, List.setIfInBounds_toArray, List.set_cons_zero, List.set_cons_succ]
  refine WL.late (i := 9) (by kernel_rfl) rfl (by kernel_rfl) (fun K hK => ?_)
  go_simp
  go_at_call 87
  refine HRD.out.mono ?_
  rintro e w3 ⟨v3, rfl, ho3, hb3⟩
  obtain ⟨A3, c3, e3, hc3, hr3, _⟩ := RV.ofOwnN ho3
  subst e3
  have hT3 : w3.cell? ⟨s, 2, none⟩ = some (.map (some rb)) ∧ (Instr.lookup 91 (.map (some rb)) (.int .i64 (bn : Nat)) false).run Tryz.prog w3 = .ok (.agg #[.int .i64 (at0 : Nat), .int .i64 (N : Nat)]) w3 := ⟨(hb3.cell (p := ⟨s, 2, none⟩) (hsl w2.drew hz2)).trans q2, HLK.out w3 hb3⟩
  have hb13 : Below W1.heap.size W1 w3 := HB2.out.trans (hb3.mono hz2)
  have HPA := Lib.hid (Parse_c A3 c3 bs w3 hr3.rn hc3 HLT.out)
  rw [HP.out] at HPA
  have HR3 := Lib.hid hr3
  have HC3 := Lib.hid hc3
  have HB13 := Lib.hid hb13
  have hz3 := hb13.size
  clear ho3 hr3 hc3 hb3 hb13 HRD HB2 HLK hlook
  go_simp
  refine hK.out _ _ ?_
  clear hK K
  refine WL.take (i := 10) (v := ?_) rfl (by kernel_rfl) (by kernel_rfl) (by kernel_rfl) (by kernel_rfl) (fun _ _ _ h => h) (Or.inl ⟨by rfl, ?_⟩) (by assumption) ?_
  rotate_left 1
  · (intro w' hSw; (try (replace hSw := hSw (by decide); dsimp only at hSw)); go_split_ands; go_simp; try with_reducible rfl)
  simp only [Act.put, List.getElem_toArray, List.getElem_cons_zero, List.getElem_cons_succ, List.setIfInBounds_toArray, List.set_cons_zero, List.set_cons_succ]
  refine WL.take (i := 11) (v := ?_) rfl (by kernel_rfl) (by kernel_rfl) (by kernel_rfl) (by kernel_rfl) (fun _ _ _ h => h) (Or.inl ⟨by rfl, ?_⟩) (by assumption) ?_
  rotate_left 1
  · (intro w' hSw; (try (replace hSw := hSw (by decide); dsimp only at hSw)); go_split_ands; go_simp; try with_reducible rfl)
  simp only [Act.put, List.getElem_toArray, List.getElem_cons_zero, List.getElem_cons_succ, List.setIfInBounds_toArray, List.set_cons_zero, List.set_cons_succ]
  refine WL.take (i := 12) (v := ?_) rfl (by kernel_rfl) (by kernel_rfl) (by kernel_rfl) (by kernel_rfl) (fun _ _ _ h => h) (Or.inl ⟨by rfl, ?_⟩) (by assumption) ?_
  rotate_left 1
  · (intro w' hSw; (try (replace hSw := hSw (by decide); dsimp only at hSw)); go_split_ands; go_simp; try with_reducible rfl)
  simp only [Act.put, List.getElem_toArray, List.getElem_cons_zero, List.getElem_cons_succ, List.setIfInBounds_toArray, List.set_cons_zero, List.set_cons_succ]
  refine WL.take (i := 13) (v := ?_) rfl (by kernel_rfl) (by kernel_rfl) (by kernel_rfl) (by kernel_rfl) (fun _ _ _ h => h) (Or.inl ⟨by rfl, ?_⟩) (by assumption) ?_
  rotate_left 1
  · (intro w' hSw; (try (replace hSw := hSw (by decide); dsimp only at hSw)); go_split_ands; go_simp; try with_reducible rfl)
  simp only [Act.put, List.getElem_toArray, List.getElem_cons_zero, List.getElem_cons_succ, List.setIfInBounds_toArray, List.set_cons_zero, List.set_cons_succ]
  refine WL.take (i := 14) (v := ?_) rfl (by kernel_rfl) (by kernel_rfl) (by kernel_rfl) (by kernel_rfl) (fun _ _ _ h => h) (Or.inl ⟨by rfl, ?_⟩) (by assumption) ?_
  rotate_left 1
  · (intro w' hSw; (try (replace hSw := hSw (by decide); dsimp only at hSw)); go_split_ands; go_simp; try with_reducible rfl)
  simp only [Act.put, List.getElem_toArray, List.getElem_cons_zero, List.getElem_cons_succ, List.setIfInBounds_toArray, List.set_cons_zero, List.set_cons_succ]
  refine WL.done (by kernel_rfl) ?_ _
  clear hT hT3 q0 q1 q2
  go_wp2_with fail
  refine HPA.out.mono ?_
  rintro e w4 ⟨v4, rfl, ⟨A4, c4, e4, hr4⟩, hb4⟩
  have e4 : v4 = .agg #[.int .i64 (bn : Nat), .int .i64 (M : Nat), .slice A4 sl.length c4] := e4
  subst e4
  obtain ⟨W5, hW5⟩ : ∃ W5, w4.alloc (.cells #[.int .i64 (bn : Nat), .int .i64 (M : Nat), .slice A4 sl.length c4] 107) = W5 := ⟨_, rfl⟩
  have hb45 : Below w4.heap.size w4 W5 := by rw [← hW5]; exact (Below.refl _ _).alloc (Nat.le_refl _) _
  have hg9 : W5.heap[w4.heap.size]? = some (.cells #[.int .i64 (bn : Nat), .int .i64 (M : Nat), .slice A4 sl.length c4] 107 (0, 0)) := by rw [← hW5]; exact heap_alloc_new _ _
  have hz4 := hb4.size
  have hb35 : Below w3.heap.size w3 W5 := hb4.trans (hb45.mono hz4)
  have hb15 := HB13.out.trans (hb35.mono hz3)
  have hg5 : W5.heap[w.heap.size]? = _ := (hb15.block w.heap.size (by have := HG5.out; omega)).trans HG1.out
  rw [HG5.out] at hg5
  have hgl9 := (Array.getElem?_eq_some_iff.1 hg9).1
  have hr5 := HR3.out.below hb35
  have hr45 := RV.below hr4 hb45
  have hwd : W5.drew.heap[g5]? = some (.cells #[.int .i64 0, .int .i64 0, .slice none 0 0] 107 (0, 0)) := hg5
  have k90 : W5.cell? ⟨w4.heap.size, 0, none⟩ = some (.int .i64 (bn : Nat)) := by rw [cell_of_row _ _ _ _ _ _ hg9]; rfl
  have k91 : W5.cell? ⟨w4.heap.size, 1, none⟩ = some (.int .i64 (M : Nat)) := by rw [cell_of_row _ _ _ _ _ _ hg9]; rfl
  have k92 : W5.cell? ⟨w4.heap.size, 2, none⟩ = some (.slice A4 sl.length c4) := by rw [cell_of_row _ _ _ _ _ _ hg9]; rfl
  have p0 : W5.cell? ⟨g5, 0, none⟩ = some (.int .i64 0) := by rw [cell_of_row _ _ _ _ _ _ hg5]; rfl
  have p1 : W5.cell? ⟨g5, 1, none⟩ = some (.int .i64 0) := by rw [cell_of_row _ _ _ _ _ _ hg5]; rfl
  have p2 : W5.cell? ⟨g5, 2, none⟩ = some (.slice none 0 0) := by rw [cell_of_row _ _ _ _ _ _ hg5]; rfl
  have pf0 : W5.frozen? ⟨g5, 0, none⟩ = false := frozen_of_row _ _ _ _ _ hg5
  have pf1 : W5.frozen? ⟨g5, 1, none⟩ = false := frozen_of_row _ _ _ _ _ hg5
  have pf2 : W5.frozen? ⟨g5, 2, none⟩ = false := frozen_of_row _ _ _ _ _ hg5
  have hset := bin_set3 W5 g5 (.int .i64 (bn : Nat)) (.int .i64 (M : Nat)) (.slice A4 sl.length c4) _ _ _ hg5
  have hgP : Gr (fun k => k = g5) W5 (((W5.setCell ⟨g5, 0, none⟩ (.int .i64 (bn : Nat))).setCell ⟨g5, 1, none⟩ (.int .i64 (M : Nat))).setCell ⟨g5, 2, none⟩ (.slice A4 sl.length c4)) := ((Gr.setCell (S := fun k => k = g5) _ _ _ rfl).trans (Gr.setCell (S := fun k => k = g5) _ _ _ rfl) (fun x _ hx => hx)).trans (Gr.setCell (S := fun k => k = g5) _ _ _ rfl) (fun x _ hx => hx)
  have hgD := hgP.trans (Gr.of_below (fun k => k = g5) (Below.refl _ _).drew) (fun x _ hx => hx)
  have hrE := hr5.move (fun g cs x hh => hgD.block g (Array.getElem?_eq_some_iff.1 hh).1 (cells_ne hh hg5 (by decide)))
  have hr4E := hr45.move (fun g cs x hh => hgD.block g (Array.getElem?_eq_some_iff.1 hh).1 (cells_ne hh hg5 (by decide)))
  have hbE : Below w.heap.size w (((W5.setCell ⟨g5, 0, none⟩ (.int .i64 (bn : Nat))).setCell ⟨g5, 1, none⟩ (.int .i64 (M : Nat))).setCell ⟨g5, 2, none⟩ (.slice A4 sl.length c4)).drew := by
    have h1 := HB1.out.trans (hb15.mono HB1.out.size)
    have hge : w.heap.size ≤ g5 := by have := HG5.out; omega
    exact ((((h1.setCell hge _).setCell hge _).setCell hge _)).drew
  have HW5 := Lib.hid hW5
  have HSET := Lib.hid hset
  have HRE := Lib.hid hrE
  have HR4E := Lib.hid hr4E
  have HBE := Lib.hid hbE
  clear hW5 hb45 hg9 hb4 hb35 hb15 hr5 hr45 hr4 hset hgP hgD hrE hr4E hbE HR3 HPA HB13 HB1 HG1
  go_wp2_with (rw [HW5.out])
  refine wp_region_late [1] (fun w' => w'.cell? ⟨w4.heap.size, 0, none⟩ = some (.int .i64 (bn : Nat)) ∧ w'.cell? ⟨w4.heap.size, 1, none⟩ = some (.int .i64 (M : Nat)) ∧ w'.cell? ⟨w4.heap.size, 2, none⟩ = some (.slice A4 sl.length c4)) (by kernel_rfl) ⟨k90, k91, k92⟩ (fun hT => ?_)
  refine WL.take (i := 0) (v := ?_) rfl (by kernel_rfl) (by kernel_rfl) (by kernel_rfl) (by kernel_rfl) (fun _ _ _ h => h) (Or.inl ⟨by rfl, ?_⟩) (by assumption) ?_
  rotate_left 1
  · (intro w' hSw; (try (replace hSw := hSw (by decide); dsimp only at hSw)); go_split_ands; go_simp; try with_reducible rfl)
  simp only [Act.put, List.getElem_toArray, List.getElem_cons_zero, List.getElem_cons_succ, List.setIfInBounds_toArray, List.set_cons_zero, List.set_cons_succ]
  refine WL.take (i := 1) (v := ?_) rfl (by kernel_rfl) (by kernel_rfl) (by kernel_rfl) (by kernel_rfl) (fun _ _ _ h => h) (Or.inl ⟨by rfl, ?_⟩) (by assumption) ?_
  rotate_left 1
  · (intro w' hSw; (try (replace hSw := hSw (by decide); dsimp only at hSw)); go_split_ands; go_simp; try with_reducible rfl)
  simp only [Act.put, List.getElem_toArray, List.getElem_cons_zero, List.getElem_cons_succ, List.setIfInBounds_toArray, List.set_cons_zero, List.set_cons_succ]
  refine WL.take (i := 2) (v := ?_) rfl (by kernel_rfl) (by kernel_rfl) (by kernel_rfl) (by kernel_rfl) (fun _ _ _ h => h) (Or.inl ⟨by rfl, ?_⟩) (by assumption) ?_
  rotate_left 1
  · (intro w' hSw; (try (replace hSw := hSw (by decide); dsimp only at hSw)); go_split_ands; go_simp; try with_reducible rfl)
  simp only [Act.put, List.getElem_toArray, List.getElem_cons_zero, List.getElem_cons_succ, List.setIfInBounds_toArray, List.set_cons_zero, List.set_cons_succ]
  refine WL.late (i := 3) (by kernel_rfl) rfl (by kernel_rfl) (fun K hK => ?_)
  go_simp
  refine hK.out _ _ ?_
  clear hK K
  refine WL.late (i := 4) (by kernel_rfl) rfl (by kernel_rfl) (fun K hK => ?_)
  go_simp
  refine hK.out _ _ ?_
  clear hK K
  refine WL.done (by kernel_rfl) ?_ _
  go_wp2_with fail
  refine bodyPost_ret (results_tct (P := Tryz.prog) (fn := Tryz.f50) rfl _ _ g5 107 _ (0, 0) _ rfl HSET.out Tryz.underlying107 rfl info_bin) rfl ?_
  exact ⟨A3, c3, A4, c4, rfl, HRE.out.rn, HC3.out, HR4E.out, HBE.out⟩
end Go.Proofs.YtbcamfbbooggfaaGreat.F
end

section
/- A chunk is read off a shelf. -/
set_option linter.unusedVariables false
set_option linter.unusedSimpArgs false
namespace Go.Proofs.YtbcamfbbooggfaaGreat.F
open Go.RowKit Go.Proofs.YtbcamfbbooggfaaGreatW.PrintWords Go.Maps
attribute [local go_sem ↓] Go.wp_at_zero Go.wp_at_succ

set_option maxRecDepth 20000 in
set_option maxHeartbeats 4000000 in
theorem BChunk_c {db gs mb er rb s n bn at0 N : Nat} {sb : List (List Nat)} {dm : List (Nat × Sec × List Nat)} {trip : Int} {life : Nat} {m : List (Nat × Sec × List Nat)} {x : List Nat} {sl : List Sl} {bs : List Nat} {M : Nat} (j : Nat) (p : List Nat) (w : World)
    (hd : DK w db gs mb n sb dm trip false life) (hs : SH w s db er rb m) (hk : lk m bn = some ((at0, N), x)) (hat : at0 + N ≤ n) (hbs : secsN sb dm at0 N = bs) (hp : parseP bs = (0, bn, M, sl)) (hlt : ∀ x ∈ bs, x < 256)
    (hsl : ∀ q ∈ sl, q.1.length = 32 ∧ ∀ x ∈ q.1, x < 256) (hj : j < sl.length) (hsm : ∀ q ∈ sl, q.2.1 ≤ 1000000 ∧ q.2.2 ≤ 1000000) (hll : sl.length ≤ 1000000) (hch : chunkA bs sl[j].1 (sl[j].2.1 : Nat) (sl[j].2.2 : Nat) = (0, p)) :
    Calls Tryz.prog 22 #[.pointer (some ⟨s, 0, none⟩), .int .i64 (bn : Nat), .int .i64 (j : Nat)] w fun e w' => ∃ A c, e = .returned (.tuple #[.slice A p.length c, .int .i64 0]) ∧ p.length ≤ c ∧ RN .u8 w' A p ∧ Below w.heap.size w w' := by
  have HWH := Lib.hid (BWhole_c w hd hs hk hat hbs hp hlt)
  obtain ⟨q, a, c, hq⟩ : ∃ q a c, sl[j] = (q, a, c) := ⟨_, _, _, rfl⟩
  have hqm : (q, a, c) ∈ sl := by rw [← hq]; exact List.getElem_mem hj
  have hq32 := (hsl _ hqm).1
  have hq256 := (hsl _ hqm).2
  have hqa := hsm _ hqm
  rw [hq] at hch
  have HCH := Lib.hid hch
  have HSL := Lib.hid hsl
  have HLT := Lib.hid hlt
  have HQ := Lib.hid hq
  have HQ32 := Lib.hid hq32
  have HQ256 := Lib.hid hq256
  have d1 : decide ((j : Int) < 0) = false := decide_eq_false (by omega)
  have d2 : decide ((sl.length : Int) ≤ (j : Int)) = false := decide_eq_false (by omega)
  have d2' : decide (sl.length ≤ j) = false := decide_eq_false (by omega)
  have i0 : (0 : Int) ≤ (j : Int) := by omega
  have i1 : (j : Int) < (sl.length : Int) := by omega
  have HQA := Lib.hid hqa
  clear hd hs hk hat hbs hp hlt hsl hch hq hq32 hq256 hqm hsm hqa
  go_enter Tryz.func22, Tryz.ntmps22
  go_wp2_with fail
  refine HWH.out.mono ?_
  rintro e w1 ⟨A1, c1, A3, c3, rfl, hr1, hc1, hr3, hb1⟩
  obtain ⟨W2, hW2⟩ : ∃ W2, w1.alloc (.cells #[.int .i64 (bn : Nat), .int .i64 (M : Nat), .slice A3 sl.length c3] 107) = W2 := ⟨_, rfl⟩
  have hb12 : Below w1.heap.size w1 W2 := by rw [← hW2]; exact (Below.refl _ _).alloc (Nat.le_refl _) _
  have hg9 : W2.heap[w1.heap.size]? = some (.cells #[.int .i64 (bn : Nat), .int .i64 (M : Nat), .slice A3 sl.length c3] 107 (0, 0)) := by rw [← hW2]; exact heap_alloc_new _ _
  have k92 : W2.cell? ⟨w1.heap.size, 2, none⟩ = some (.slice A3 sl.length c3) := by rw [cell_of_row _ _ _ _ _ _ hg9]; rfl
  have hr2 := hr1.below hb12
  have hr32 := hr3.below hb12
  obtain ⟨g, o, eA, hrg⟩ := RV.slot hr32 (fun s hs => (HSL.out s hs).1) j hj
  subst eA
  rw [HQ.out] at hrg
  have HB12 := Lib.hid (hb1.trans (hb12.mono hb1.size))
  have HCF := Lib.hid (ChunkF_c A1 c1 bs q (a : Int) (c : Int) W2 hr2 HLT.out hc1 HQ32.out HQ256.out (by have := HQA.out; omega) (by have := HQA.out; omega))
  rw [HCH.out] at HCF
  obtain ⟨C, hC⟩ : ∃ C, slV q (a : Int) (c : Int) = C := ⟨_, rfl⟩
  have HRG := Lib.hid hrg
  have HW2 := Lib.hid hW2
  have hsz : (Tryz.prog.info? 117).map (·.size) = some (slCells (q, a, c)).length := by rw [slCells_len HQ32.out]; kernel_rfl
  have HI := Lib.hid hsz
  have HC := Lib.hid (show (slCells (q, a, c)).toArray = C from hC)
  rw [hC] at HCF
  clear hb12 hg9 hb1 hr1 hr2 hr3 hr32 hrg hW2 hsz hC HWH hc1
  go_wp2_with (first | (rw [HW2.out]) | (refine wpList_load_mid rfl 117 (.tmp 38) rfl g (o + j * 34) rfl (slCells (q, a, c)) _ HRG.out Tryz.underlying117 (by rfl) HI.out ?_; rw [HC.out]))
  refine HCF.out.mono ?_
  rintro e w3 ⟨A5, c5, rfl, hc5, hr5, hb5⟩
  have HBE := Lib.hid (HB12.out.trans (hb5.mono HB12.out.size))
  have HR5 := Lib.hid hr5
  have HC5 := Lib.hid hc5
  clear hr5 hb5 hc5 HCF HB12
  go_wp2_with fail
  go_ret2
  exact ⟨A5, c5, rfl, HC5.out, HR5.out, HBE.out⟩
end Go.Proofs.YtbcamfbbooggfaaGreat.F
end
