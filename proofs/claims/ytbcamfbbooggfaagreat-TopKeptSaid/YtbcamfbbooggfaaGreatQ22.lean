/- Part 22 of the proof: W3, L1, W4. -/
import Derived.Test.YtbcamfbbooggfaaGreatQ21
import Derived.Shelf.SlIterI.Nil
import Derived.Shelf.SortM.Plain
import Derived.Shelf.SortM.SortNone
import Derived.Test.YtbcamfbbooggfaaGreatProg

section
/- A disk is written. -/
set_option linter.unusedVariables false
set_option linter.unusedSimpArgs false
namespace Go.Proofs.YtbcamfbbooggfaaGreat.F
open Go.RowKit Go.Proofs.YtbcamfbbooggfaaGreatW.PrintWords
attribute [local go_sem ↓] Go.wp_at_zero Go.wp_at_succ

theorem owns_tight {H : Type} {P : Program} {k : TypeId} {R : Value → Option (DataW H × List MemPlace)} {w : World} {b n : Nat} {D : DataW H} (h : w.ownsMap P k R b n D) : w.ownsMap P k R b (Maps.size D) D := by
  obtain ⟨es, clock, hb, F, hs, hD⟩ := h
  exact ⟨es, clock, hb, F, by rw [hD]; simp [Maps.size, length_sorted], hD⟩
theorem wp_mapUpdate_at {H : Type} {P : Program} {w : World} {o : Oper} {a : Act} {K : Act → World → Prop} {Q : Exit → Act → World → Prop} (m x v : Operand) (t : TypeId) (hop : o.op = Op.mapUpdate t m x v)
    (k e : TypeId) (Kk : Maps.Keyed P k) (ht : P.underlying t = some (.map k e)) (R : Value → Option (DataW H × List MemPlace)) (b n : Nat) (D : DataW H)
    (hm : a.eval m = .map (some b)) (hown : w.ownsMap P k R b n D) (hn : n < maxLen) (key val : Value) (kl : Lit) (hx : a.eval x = key) (hv : a.eval v = val) (hkey : keyOf P k key = some kl)
    (d : DataW H) (ps : List MemPlace) (hval : R val = some (d, ps))
    (hK : ∀ w', w'.ownsMap P k R b (n + 1) (D.put kl d) → w.mapTurned w' b → K (a.put o.dst undef) w') : Oper.wp P o a w K Q := by
  obtain ⟨w', hrun, r1, r2⟩ := hown.store Kk ht hn hkey hval
  unfold Oper.wp
  simp [execOp, hop, hm, hx, hv, hrun, Result.andThen]
  exact hK w' r1 r2
/-- What is turned: the disk's block, its map, its row. -/
def DS (b gs mb : Nat) (k : Nat) : Prop := k = b ∨ k = gs ∨ k = mb
theorem DK.putD {W W' : World} {b gs mb n : Nat} {sb : List (List Nat)} {dm : List (Nat × Sec × List Nat)} {trip : Int} {down : Bool} {life : Nat} (h : DK W b gs mb n sb dm trip down life) {D : DataW Unit} {dm' : List (Nat × Sec × List Nat)} {m : Nat}
    (hg : W.grownBy W' (some mb)) (hown : W'.ownsMap Tryz.prog 3 rdSec mb m D) (hD : Dirt D dm') (hs : ∀ x ∈ dm', x.1 < n ∧ SecAt W' x.2.1 x.2.2) : DK W' b gs mb n sb dm' trip down life := by
  obtain ⟨n1, n2, n3⟩ := h.ne
  obtain ⟨⟨cs, sv, row, h1, h2, h3, h4, h5, h6⟩, hl, ⟨D0, h7, h8⟩, h9, h10⟩ := h
  have hmap : ∀ cs t x, W.heap[mb]? ≠ some (Obj.cells cs t x) := fun cs t x e => by
    obtain ⟨es, c, q, _⟩ := h7
    rw [q] at e; cases e
  have hu : ∀ (g : Nat) (cs : Array Value) (x : Nat × Nat), W.heap[g]? = some (Obj.cells cs 5 x) → W'.heap[g]? = W.heap[g]? := fun g cs x hh => hg.block g (Array.getElem?_eq_some_iff.1 hh).1 (fun e => by
    have e := Option.some.inj e
    subst e
    exact hmap _ _ _ hh)
  exact ⟨⟨cs, sv, row, (hg.block b (Array.getElem?_eq_some_iff.1 h1).1 (fun e => n2 (Option.some.inj e))).trans h1, h2, h3, (hg.block gs (Array.getElem?_eq_some_iff.1 h4).1 (fun e => n3 (Option.some.inj e))).trans h4, h5, fun i h hh => (h6 i h hh).move hu⟩, hl, ⟨D, owns_tight hown, hD⟩, hs, h10⟩
theorem Dirt.small {D : DataW Unit} {m : List (Nat × Sec × List Nat)} (h : Dirt D m) {n : Nat} (hn : ∀ x ∈ m, x.1 < n) : Maps.size D ≤ n := by
  rw [h.2.2.1]
  have h1 : (m.map (·.1)).length ≤ (List.range n).length := by
    refine List.Nodup.length_le_of_subset h.2.1 (fun x hx => ?_)
    obtain ⟨y, hy, rfl⟩ := List.mem_map.1 hx
    exact List.mem_range.2 (hn y hy)
  simpa using h1
set_option maxRecDepth 20000 in
set_option maxHeartbeats 2000000 in
theorem Write1_c {b gs mb n : Nat} {sb : List (List Nat)} {dm : List (Nat × Sec × List Nat)} {trip : Int} {life : Nat} (i : Nat) (s : Sec) (bs : List Nat) (p8 p3 p4 : Nat) (w : World) (h : DK w b gs mb n sb dm trip false life) (hi : i < n) (hs : SecAt w s bs)
    (k8 : w.cell? ⟨p8, 0, none⟩ = some (secV s)) (k3 : w.cell? ⟨p3, 0, none⟩ = some (.pointer (some ⟨b, 0, none⟩))) (k4 : w.cell? ⟨p4, 0, none⟩ = some (.int .i64 (i : Nat))) :
    Calls Tryz.prog 113 #[.pointer (some ⟨p8, 0, none⟩), .pointer (some ⟨p3, 0, none⟩), .pointer (some ⟨p4, 0, none⟩)] w fun e w' => (∃ v, e = .returned v) ∧ DK w' b gs mb n sb ((i, s, bs) :: without dm i) trip false life ∧ Gr (DS b gs mb) w w' := by
  obtain ⟨cs, k0, k1, _⟩ := h.cells
  obtain ⟨D, hown, hD⟩ := h.map
  have hsm := h.small
  have hsz := hD.small (fun x hx => (h.secs x hx).1)
  have hkey := keyOfI i (by omega)
  have HD := Lib.hid hD
  have HOWN := Lib.hid hown
  have HDK := Lib.hid h
  have HS := Lib.hid hs
  clear h hD hown hs
  go_enter Tryz.func113, Tryz.ntmps113
  go_wp2_with fail
  refine wp_region_late [0, 3, 4, 5] (fun w' => w'.cell? ⟨p8, 0, none⟩ = some (secV s) ∧ w'.cell? ⟨p3, 0, none⟩ = some (.pointer (some ⟨b, 0, none⟩)) ∧ w'.cell? ⟨p4, 0, none⟩ = some (.int .i64 (i : Nat)) ∧ w'.cell? ⟨b, 1, none⟩ = some (.map (some mb))) (by kernel_rfl) ⟨k8, k3, k4, k1⟩ (fun hT => ?_)
  refine WL.take (i := 0) (v := ?_) rfl (by kernel_rfl) (by kernel_rfl) (by kernel_rfl) (by kernel_rfl) (fun _ _ _ h => h) (Or.inl ⟨by rfl, ?_⟩) (by assumption) ?_
  rotate_left 1
  · (intro w' hSw; (try (replace hSw := hSw (by decide); dsimp only at hSw)); go_split_ands; go_simp; try with_reducible rfl)
  simp only [Act.put, List.getElem_toArray, List.getElem_cons_zero, List.getElem_cons_succ, List.setIfInBounds_toArray, List.set_cons_zero, List.set_cons_succ]
  refine WL.take (i := 1) (v := ?_) rfl (by kernel_rfl) (by kernel_rfl) (by kernel_rfl) (by kernel_rfl) (fun _ _ _ h => h) (Or.inl ⟨by rfl, ?_⟩) (by assumption) ?_
  rotate_left 1
  · (intro w' hSw; (try (replace hSw := hSw (by decide); dsimp only at hSw)); go_split_ands; go_simp; try with_reducible rfl)
  simp only [Act.put, List.getElem_toArray, List.getElem_cons_zero, List.getElem_cons_succ, List.setIfInBounds_toArray, List.set_cons_zero, List.set_cons_succ]
  refine WL.take (i := 2) (v := ?_) rfl (by kernel_rfl) (by kernel_rfl) (by kernel_rfl) (by kernel_rfl) (fun _ _ _ h => h) (Or.inl ⟨by rfl, ?_⟩) (by assumption) ?_
  rotate_left 1
  · (intro w' hSw; (try (replace hSw := hSw (by decide); dsimp only at hSw)); go_split_ands; go_simp; try with_reducible rfl)
  simp only [Act.put, List.getElem_toArray, List.getElem_cons_zero, List.getElem_cons_succ, List.setIfInBounds_toArray, List.set_cons_zero, List.set_cons_succ]
  refine WL.take (i := 3) (v := ?_) rfl (by kernel_rfl) (by kernel_rfl) (by kernel_rfl) (by kernel_rfl) (fun _ _ _ h => h) (Or.inl ⟨by rfl, ?_⟩) (by assumption) ?_
  rotate_left 1
  · (intro w' hSw; (try (replace hSw := hSw (by decide); dsimp only at hSw)); go_split_ands; go_simp; try with_reducible rfl)
  simp only [Act.put, List.getElem_toArray, List.getElem_cons_zero, List.getElem_cons_succ, List.setIfInBounds_toArray, List.set_cons_zero, List.set_cons_succ]
  refine WL.take (i := 4) (v := ?_) rfl (by kernel_rfl) (by kernel_rfl) (by kernel_rfl) (by kernel_rfl) (fun _ _ _ h => h) (Or.inl ⟨by rfl, ?_⟩) (by assumption) ?_
  rotate_left 1
  · (intro w' hSw; (try (replace hSw := hSw (by decide); dsimp only at hSw)); go_split_ands; go_simp; try with_reducible rfl)
  simp only [Act.put, List.getElem_toArray, List.getElem_cons_zero, List.getElem_cons_succ, List.setIfInBounds_toArray, List.set_cons_zero, List.set_cons_succ]
  refine WL.take (i := 5) (v := ?_) rfl (by kernel_rfl) (by kernel_rfl) (by kernel_rfl) (by kernel_rfl) (fun _ _ _ h => h) (Or.inl ⟨by rfl, ?_⟩) (by assumption) ?_
  rotate_left 1
  · (intro w' hSw; (try (replace hSw := hSw (by decide); dsimp only at hSw)); go_split_ands; go_simp; try with_reducible rfl)
  simp only [Act.put, List.getElem_toArray, List.getElem_cons_zero, List.getElem_cons_succ, List.setIfInBounds_toArray, List.set_cons_zero, List.set_cons_succ]
  refine WL.late (i := 6) (by kernel_rfl) rfl (by kernel_rfl) (fun K hK => ?_)
  rw [if_pos (by rfl)]
  refine wp_mapUpdate_at (.tmp 6) (.tmp 7) (.tmp 8) 83 (by rfl) 3 25 lawK Tryz.underlying83 rdSec mb (Maps.size D) D (by rfl) (w := w.drew) (HOWN.out.kept (row := none) ⟨rfl, rfl, rfl, Nat.le_refl _, fun _ _ _ => rfl⟩ (by simp)) (by unfold maxLen; omega) (.int .i64 (i : Nat)) (secV s) (.int .i64 (i : Nat)) (by rfl) (by rfl) hkey (secD s) [] (rdSec_mk s) ?_
  intro w1 hown1 hturn1
  have hg1 := hturn1.grown
  have hdr : Below w.heap.size w w.drew := (Below.refl _ _).drew
  have hg2 : w.grownBy w1 (some mb) := ⟨hg1.os, hg1.tape, hg1.output, hg1.size, hg1.block⟩
  have hsec : ∀ (s' : Sec) (bs' : List Nat), SecAt w s' bs' → SecAt w1 s' bs' := fun s' bs' hh => hh.move (fun g cs x hx => hg2.block g (Array.getElem?_eq_some_iff.1 hx).1 (fun e => by
    have e := Option.some.inj e
    subst e
    obtain ⟨es, c, q, _⟩ := HOWN.out
    rw [q] at hx; cases hx))
  have hdk := HDK.out.putD hg2 hown1 (HD.out.put i (s, bs)) (fun x hx => by
    rcases List.mem_cons.1 hx with rfl | hx
    · exact ⟨hi, hsec _ _ HS.out⟩
    · have := HDK.out.secs x (List.mem_filter.1 hx).1
      exact ⟨this.1, hsec _ _ this.2⟩)
  have HG := Lib.hid hdk
  have HGR : Hid (Gr (DS b gs mb) w w1) := Lib.hid ⟨hg2.os, hg2.tape, hg2.output, hg2.size, fun k hk hn => hg2.block k hk (fun e => hn (.inr (.inr (Option.some.inj e))))⟩
  clear hown1 hturn1 hg1 hg2 hsec hdk
  refine hK.out _ _ ?_
  clear hK K
  refine WL.done (by kernel_rfl) ?_ _
  go_wp2_with fail
  go_end0
  exact ⟨⟨_, rfl⟩, HG.out, HGR.out⟩
/-- A number of the disk's is set. -/
theorem DK.setCell {W : World} {b gs mb n : Nat} {sb : List (List Nat)} {dm : List (Nat × Sec × List Nat)} {trip trip' : Int} {down down' : Bool} {life life' : Nat} (h : DK W b gs mb n sb dm trip down life) (o : Nat) (v : Value)
    (hv : ∀ cs, (#[.slice (some ⟨gs, 0, none⟩) n cs, .map (some mb), .int .i64 trip, .bool down, .int .i64 (life : Nat)] : Array Value).setIfInBounds o v = #[.slice (some ⟨gs, 0, none⟩) n cs, .map (some mb), .int .i64 trip', .bool down', .int .i64 (life' : Nat)]) :
    DK (W.setCell ⟨b, o, none⟩ v) b gs mb n sb dm trip' down' life' := by
  obtain ⟨n1, n2, n3⟩ := h.ne
  obtain ⟨⟨cs, sv, row, h1, h2, h3, h4, h5, h6⟩, hl, ⟨D0, h7, h8⟩, h9, h10⟩ := h
  have hu : ∀ (g : Nat) (cs : Array Value) (x : Nat × Nat), W.heap[g]? = some (Obj.cells cs 5 x) → (W.setCell ⟨b, o, none⟩ v).heap[g]? = W.heap[g]? := fun g cs x hh => heap_setCell_other _ _ _ _ (fun e => by
    have e : g = b := e
    rw [e, h1] at hh; injection hh with hh; injection hh with _ hh _; exact absurd hh (by decide))
  refine ⟨⟨cs, sv, row, ?_, h2, h3, (heap_setCell_other _ _ _ _ (fun e => n1 (Eq.symm e))).trans h4, h5, fun i h hh => (h6 i h hh).move hu⟩, hl, ⟨D0, h7.setCell (fun e => n2 (Eq.symm e)) v, h8⟩, fun x hx => ⟨(h9 x hx).1, (h9 x hx).2.move hu⟩, h10⟩
  rw [heap_setCell_same W b o _ _ v h1, hv cs]
theorem Gr.ds {b gs mb o : Nat} (W : World) (v : Value) : Gr (DS b gs mb) W (W.setCell ⟨b, o, none⟩ v) := Gr.setCell W _ v (.inl rfl)
set_option maxRecDepth 20000 in
set_option maxHeartbeats 4000000 in
theorem trips_w {b gs mb n : Nat} {sb : List (List Nat)} {dm : List (Nat × Sec × List Nat)} {life : Nat} (i : Nat) (s : Sec) (bs : List Nat) (p8 p3 p4 : Nat) (w : World) (h : DK w b gs mb n sb dm 0 false life) (hi : i < n) (hs : SecAt w s bs)
    (k8 : w.cell? ⟨p8, 0, none⟩ = some (secV s)) (k3 : w.cell? ⟨p3, 0, none⟩ = some (.pointer (some ⟨b, 0, none⟩))) (k4 : w.cell? ⟨p4, 0, none⟩ = some (.int .i64 (i : Nat))) (hne : p8 ≠ b ∧ p3 ≠ b ∧ p4 ≠ b) :
    Calls Tryz.prog 41 #[.pointer (some ⟨b, 0, none⟩), .func (.func 113) #[] #[.pointer (some ⟨p8, 0, none⟩), .pointer (some ⟨p3, 0, none⟩), .pointer (some ⟨p4, 0, none⟩)]] w fun e w' => e = .returned (.int .i64 0) ∧ DK w' b gs mb n sb ((i, s, bs) :: without dm i) 0 false life ∧ Gr (DS b gs mb) w w' := by
  obtain ⟨cs, _, _, k2, _, _, f2, _⟩ := h.cells
  have hd1 := h.setCell (trip' := -1) (down' := false) (life' := life) 2 (.int .i64 (-1)) (fun cs => rfl)
  have hd2 := hd1.setCell (trip' := 0) (down' := false) (life' := life) 2 (.int .i64 0) (fun cs => rfl)
  have hgr : Gr (DS b gs mb) w ((w.setCell ⟨b, 2, none⟩ (.int .i64 (-1))).setCell ⟨b, 2, none⟩ (.int .i64 0)) := (Gr.ds w _).trans (Gr.ds _ _) (fun x _ hx => hx)
  have hlt := h.lt.1
  obtain ⟨⟨_, sv, row, hb1, _⟩, _⟩ := id h
  have mv : ∀ k, k ≠ b → ((w.setCell ⟨b, 2, none⟩ (.int .i64 (-1))).setCell ⟨b, 2, none⟩ (.int .i64 0)).heap[k]? = w.heap[k]? := fun k hk => (heap_setCell_other _ _ _ _ (fun e => hk e)).trans (heap_setCell_other _ _ _ _ (fun e => hk e))
  have k8' := (cell_move (a := ⟨p8, 0, none⟩) (mv p8 hne.1)).trans k8
  have k3' := (cell_move (a := ⟨p3, 0, none⟩) (mv p3 hne.2.1)).trans k3
  have k4' := (cell_move (a := ⟨p4, 0, none⟩) (mv p4 hne.2.2)).trans k4
  have hs' : SecAt ((w.setCell ⟨b, 2, none⟩ (.int .i64 (-1))).setCell ⟨b, 2, none⟩ (.int .i64 0)) s bs := hs.move (fun g cs x hh => mv g (fun e => by
    rw [e, hb1] at hh; injection hh with hh; injection hh with _ hh _; exact absurd hh (by decide)))
  have hw := Write1_c i s bs p8 p3 p4 _ hd2 hi hs' k8' k3' k4'
  have HW := Lib.hid hw
  have HGR := Lib.hid hgr
  clear hd1 hd2 hgr hs' hw h hs k8 k3 k4 k8' k3' k4' mv hb1
  go_enter Tryz.func41, Tryz.ntmps41
  go_wp2_with fail
  refine HW.out.mono ?_
  rintro e w3 ⟨⟨v3, rfl⟩, hd3, hg3⟩
  have HD3 := Lib.hid hd3
  have HG3 := Lib.hid (HGR.out.trans hg3 (fun x _ hx => hx))
  clear hd3 hg3
  go_wp2_with fail
  go_ret
  exact ⟨rfl, HD3.out, HG3.out⟩
set_option maxRecDepth 20000 in
set_option maxHeartbeats 4000000 in
theorem DWrite_c {b gs mb n : Nat} {sb : List (List Nat)} {dm : List (Nat × Sec × List Nat)} {life : Nat} (i : Nat) (A : Option Addr) (c : Nat) (bs : List Nat) (w : World) (h : DK w b gs mb n sb dm 0 false life) (hi : i < n) (hr : RN .u8 w A bs) (hc : bs.length ≤ c) (h1 : 0 < bs.length) (h2 : bs.length ≤ 128) (hb : ∀ x ∈ bs, x < 256) :
    Calls Tryz.prog 69 #[.pointer (some ⟨b, 0, none⟩), .int .i64 (i : Nat), .slice A bs.length c] w fun e w' => ∃ s : Sec, e = .returned (.int .i64 0) ∧ DK w' b gs mb n sb ((i, s, wholeN bs) :: without dm i) 0 false life ∧ Gr (DS b gs mb) w w' := by
  obtain ⟨W2, hW2⟩ : ∃ W2, (w.alloc (.cells #[.pointer (some ⟨b, 0, none⟩)] 37)).alloc (.cells #[.int .i64 (i : Nat)] 3) = W2 := ⟨_, rfl⟩
  have hb2 : Below w.heap.size w W2 := by rw [← hW2]; exact ((Below.refl _ _).alloc (Nat.le_refl _) _).alloc (by simp) _
  have hs2 : W2.heap.size = w.heap.size + 2 := by rw [← hW2]; simp
  have g3 : W2.heap[w.heap.size]? = some (.cells #[.pointer (some ⟨b, 0, none⟩)] 37 (0, 0)) := by rw [← hW2]; exact (Below.heap_alloc _ _ _ (by simp)).trans (heap_alloc_new _ _)
  have g4 : W2.heap[w.heap.size + 1]? = some (.cells #[.int .i64 (i : Nat)] 3 (0, 0)) := by
    rw [← hW2]
    have := heap_alloc_new (w.alloc (.cells #[.pointer (some ⟨b, 0, none⟩)] 37)) (.cells #[.int .i64 (i : Nat)] 3)
    simpa using this
  have k3 : W2.cell? ⟨w.heap.size, 0, none⟩ = some (.pointer (some ⟨b, 0, none⟩)) := by rw [cell_of_row _ _ _ _ _ _ g3]; rfl
  have k4 : W2.cell? ⟨w.heap.size + 1, 0, none⟩ = some (.int .i64 (i : Nat)) := by rw [cell_of_row _ _ _ _ _ _ g4]; rfl
  have hd2 := h.below hb2
  have hp := powered_c i W2 hd2 hi
  have hwh := whole_c A c bs W2 (hr.below hb2) hc h1 h2 hb
  have hlt := h.lt
  have d1 : decide ((128 : Int) < (bs.length : Nat)) = false := decide_eq_false (by omega)
  have d1' : decide (128 < bs.length) = false := decide_eq_false (by omega)
  have HW2 := Lib.hid hW2
  have HB2 := Lib.hid hb2
  have HD2 := Lib.hid hd2
  have HP := Lib.hid hp
  have HWH := Lib.hid hwh
  clear hW2 hb2 hd2 hp hwh h hr g3 g4 hb
  go_enter Tryz.func69, Tryz.ntmps69
  go_wp2_with (rw [HW2.out])
  refine HP.out.mono ?_
  rintro e w2 ⟨rfl, hw2⟩
  subst hw2
  simp only [Bool.false_eq_true, if_false]
  go_wp2_with fail
  refine HWH.out.mono ?_
  rintro e w3 ⟨s, rfl, hs3, hsg, hb3⟩
  obtain ⟨W4, hW4⟩ : ∃ W4, w3.alloc (.cells #[secV s] 25) = W4 := ⟨_, rfl⟩
  have hb34 : Below w3.heap.size w3 W4 := by rw [← hW4]; exact (Below.refl _ _).alloc (Nat.le_refl _) _
  have g8 : W4.heap[w3.heap.size]? = some (.cells #[secV s] 25 (0, 0)) := by rw [← hW4]; exact heap_alloc_new _ _
  have hs3' := hb3.size
  have hb24 : Below w2.heap.size w2 W4 := hb3.trans (hb34.mono hs3')
  have k8 : W4.cell? ⟨w3.heap.size, 0, none⟩ = some (secV s) := by rw [cell_of_row _ _ _ _ _ _ g8]; rfl
  have k3' := (hb24.cell (p := ⟨w.heap.size, 0, none⟩) (by show w.heap.size < _; omega)).trans k3
  have k4' := (hb24.cell (p := ⟨w.heap.size + 1, 0, none⟩) (by show w.heap.size + 1 < _; omega)).trans k4
  have htr := trips_w i s (wholeN bs) w3.heap.size w.heap.size (w.heap.size + 1) W4 (HD2.out.below hb24) hi (hs3.move (fun g cs x hh => hb34.block g (Array.getElem?_eq_some_iff.1 hh).1)) k8 k3' k4' (by omega)
  have HTR := Lib.hid htr
  have HW4 := Lib.hid hW4
  have HB4 := Lib.hid (HB2.out.trans (hb24.mono (by omega)))
  have hsz4 : w.heap.size ≤ W4.heap.size := HB4.out.size
  have k3'' := k3'
  clear hW4 hb34 g8 hb24 hb3 hs3 htr k8 k4' k3 k4 HWH HP HD2 HB2
  have HW4' : Hid (w3.alloc (.cells #[.slice (some ⟨s.1, 0, none⟩) 128 s.2] 25) = W4) := HW4
  dsimp only [secV]
  go_wp2_with (rw [HW4'.out])
  refine HTR.out.mono ?_
  rintro e w5 ⟨rfl, hd5, hg5⟩
  have HD5 := Lib.hid hd5
  have HG5 := Lib.hid ((Gr.of_below (DS b gs mb) HB4.out).trans hg5 (fun x _ hx => hx))
  clear hd5 hg5
  go_wp2_with fail
  go_ret
  exact ⟨s, rfl, HD5.out, HG5.out⟩
end Go.Proofs.YtbcamfbbooggfaaGreat.F
end

section
/- Sorted keys: the layings (written by the kit's program lay-plain at this dump). -/
namespace Go.Proofs
open Go.Shelf
def Tryz.keysA_ren : Go.Shelf.Ren := ⟨fun | 7 => 81 | 10 => 123 | n => n, fun | 23 => 83 | 26 => 3 | 3 => 25 | 28 => 185 | 0 => 0 | 27 => 184 | 33 => 110 | 4 => 4 | n => n, fun | n => n⟩
theorem Tryz.keysA : Go.Proofs.SlLaysZI.n7 Tryz.prog Tryz.keysA_ren := {
  mixed := by kernel_rfl
  f7 := ⟨Tryz.f81.name, by decide, Tryz.func81.trans (congrArg some (by kernel_rfl))⟩
  f10 := ⟨Tryz.f123.name, by decide, Tryz.func123.trans (congrArg some (by kernel_rfl))⟩
  t0 := Tryz.underlying0
  a0 := Tryz.isAgg0
  z0 := Tryz.sizeOf0
  v0 := Tryz.zeroValue0
  t4 := Tryz.underlying4
  a4 := Tryz.isAgg4
  z4 := Tryz.sizeOf4
  v4 := Tryz.zeroValue4
  t23 := Tryz.underlying83
  a23 := Tryz.isAgg83
  z23 := Tryz.sizeOf83
  v23 := Tryz.zeroValue83
  t26 := Tryz.underlying3
  a26 := Tryz.isAgg3
  z26 := Tryz.sizeOf3
  v26 := Tryz.zeroValue3
  t27 := Tryz.underlying184
  a27 := Tryz.isAgg184
  z27 := Tryz.sizeOf184
  v27 := Tryz.zeroValue184
  t28 := Tryz.underlying185
  a28 := Tryz.isAgg185
  z28 := Tryz.sizeOf185
  v28 := Tryz.zeroValue185
  t33 := Tryz.underlying110
  a33 := Tryz.isAgg110
  z33 := Tryz.sizeOf110
  v33 := Tryz.zeroValue110 }
def Tryz.sortedA_ren : Go.Shelf.Ren := ⟨fun | 6 => 80 | 8 => 121 | 9 => 122 | 11 => 150 | 13 => 152 | 12 => 151 | 23 => 177 | 24 => 178 | 14 => 168 | 15 => 169 | 16 => 170 | 17 => 171 | 18 => 172 | 19 => 173 | 20 => 174 | 21 => 175 | 22 => 176 | 25 => 183 | 26 => 184 | 27 => 185 | 28 => 186 | 29 => 187 | 30 => 188 | 31 => 198 | n => n, fun | 26 => 3 | 28 => 185 | 24 => 126 | 0 => 0 | 3 => 3 | 37 => 82 | 48 => 34 | 50 => 24 | 4 => 4 | 40 => 275 | 39 => 274 | 45 => 280 | 5 => 5 | 9 => 9 | 51 => 288 | 55 => 292 | 57 => 300 | 58 => 301 | 33 => 110 | n => n, fun | n => n⟩
theorem Tryz.sortedA : Go.Proofs.SlLaysZI.n6 Tryz.prog Tryz.sortedA_ren := {
  mixed := by kernel_rfl
  f6 := ⟨Tryz.f80.name, by decide, Tryz.func80.trans (congrArg some (by kernel_rfl))⟩
  f8 := ⟨Tryz.f121.name, by decide, Tryz.func121.trans (congrArg some (by kernel_rfl))⟩
  f11 := ⟨Tryz.f150.name, by decide, Tryz.func150.trans (congrArg some (by kernel_rfl))⟩
  t0 := Tryz.underlying0
  a0 := Tryz.isAgg0
  z0 := Tryz.sizeOf0
  v0 := Tryz.zeroValue0
  t24 := Tryz.underlying126
  a24 := Tryz.isAgg126
  z24 := Tryz.sizeOf126
  v24 := Tryz.zeroValue126
  t26 := Tryz.underlying3
  a26 := Tryz.isAgg3
  z26 := Tryz.sizeOf3
  v26 := Tryz.zeroValue3
  t28 := Tryz.underlying185
  a28 := Tryz.isAgg185
  z28 := Tryz.sizeOf185
  v28 := Tryz.zeroValue185
  i26 := by kernel_rfl }
def Tryz.sortA_ren : Go.Shelf.Ren := ⟨fun | 5 => 122 | 8 => 152 | 7 => 151 | 19 => 177 | 20 => 178 | 10 => 168 | 11 => 169 | 12 => 170 | 13 => 171 | 14 => 172 | 15 => 173 | 16 => 174 | 17 => 175 | 18 => 176 | 30 => 183 | 31 => 184 | 32 => 185 | 33 => 186 | 34 => 187 | 35 => 188 | 40 => 198 | n => n, fun | 23 => 126 | 25 => 3 | 3 => 3 | 32 => 82 | 22 => 126 | 0 => 0 | 44 => 34 | 46 => 24 | 4 => 4 | 36 => 275 | 35 => 274 | 41 => 280 | 5 => 5 | 9 => 9 | 53 => 288 | 57 => 292 | 63 => 300 | 64 => 301 | n => n, fun | n => n⟩
theorem Tryz.sortA : Go.Proofs.SlLaysM.n5 Tryz.prog Tryz.sortA_ren := {
  mixed := by kernel_rfl
  f5 := ⟨Tryz.f122.name, by decide, Tryz.func122.trans (congrArg some (by kernel_rfl))⟩
  f7 := ⟨Tryz.f151.name, by decide, Tryz.func151.trans (congrArg some (by kernel_rfl))⟩
  f8 := Tryz.func152.trans (congrArg some (by kernel_rfl))
  f10 := ⟨Tryz.f168.name, by decide, Tryz.func168.trans (congrArg some (by kernel_rfl))⟩
  f11 := ⟨Tryz.f169.name, by decide, Tryz.func169.trans (congrArg some (by kernel_rfl))⟩
  f12 := ⟨Tryz.f170.name, by decide, Tryz.func170.trans (congrArg some (by kernel_rfl))⟩
  f13 := ⟨Tryz.f171.name, by decide, Tryz.func171.trans (congrArg some (by kernel_rfl))⟩
  f14 := ⟨Tryz.f172.name, by decide, Tryz.func172.trans (congrArg some (by kernel_rfl))⟩
  f15 := ⟨Tryz.f173.name, by decide, Tryz.func173.trans (congrArg some (by kernel_rfl))⟩
  f16 := ⟨Tryz.f174.name, by decide, Tryz.func174.trans (congrArg some (by kernel_rfl))⟩
  f17 := ⟨Tryz.f175.name, by decide, Tryz.func175.trans (congrArg some (by kernel_rfl))⟩
  f18 := ⟨Tryz.f176.name, by decide, Tryz.func176.trans (congrArg some (by kernel_rfl))⟩
  f19 := Tryz.func177.trans (congrArg some (by kernel_rfl))
  f20 := Tryz.func178.trans (congrArg some (by kernel_rfl))
  f30 := ⟨Tryz.f183.name, by decide, Tryz.func183.trans (congrArg some (by kernel_rfl))⟩
  f31 := Tryz.func184.trans (congrArg some (by kernel_rfl))
  f32 := Tryz.func185.trans (congrArg some (by kernel_rfl))
  f33 := ⟨Tryz.f186.name, by decide, Tryz.func186.trans (congrArg some (by kernel_rfl))⟩
  f34 := ⟨Tryz.f187.name, by decide, Tryz.func187.trans (congrArg some (by kernel_rfl))⟩
  f35 := ⟨Tryz.f188.name, by decide, Tryz.func188.trans (congrArg some (by kernel_rfl))⟩
  f40 := ⟨Tryz.f198.name, by decide, Tryz.func198.trans (congrArg some (by kernel_rfl))⟩
  t0 := Tryz.underlying0
  a0 := Tryz.isAgg0
  z0 := Tryz.sizeOf0
  v0 := Tryz.zeroValue0
  t3 := Tryz.underlying3
  a3 := Tryz.isAgg3
  z3 := Tryz.sizeOf3
  v3 := Tryz.zeroValue3
  t4 := Tryz.underlying4
  a4 := Tryz.isAgg4
  z4 := Tryz.sizeOf4
  v4 := Tryz.zeroValue4
  t5 := Tryz.underlying5
  a5 := Tryz.isAgg5
  z5 := Tryz.sizeOf5
  v5 := Tryz.zeroValue5
  t9 := Tryz.underlying9
  a9 := Tryz.isAgg9
  z9 := Tryz.sizeOf9
  v9 := Tryz.zeroValue9
  t22 := Tryz.underlying126
  a22 := Tryz.isAgg126
  z22 := Tryz.sizeOf126
  v22 := Tryz.zeroValue126
  t23 := Tryz.underlying126
  a23 := Tryz.isAgg126
  z23 := Tryz.sizeOf126
  v23 := Tryz.zeroValue126
  t25 := Tryz.underlying3
  a25 := Tryz.isAgg3
  z25 := Tryz.sizeOf3
  v25 := Tryz.zeroValue3
  t32 := Tryz.underlying82
  a32 := Tryz.isAgg82
  z32 := Tryz.sizeOf82
  v32 := Tryz.zeroValue82
  t35 := Tryz.underlying274
  a35 := Tryz.isAgg274
  z35 := Tryz.sizeOf274
  v35 := Tryz.zeroValue274
  t36 := Tryz.underlying275
  a36 := Tryz.isAgg275
  z36 := Tryz.sizeOf275
  v36 := Tryz.zeroValue275
  t41 := Tryz.underlying280
  a41 := Tryz.isAgg280
  z41 := Tryz.sizeOf280
  v41 := Tryz.zeroValue280
  t44 := Tryz.underlying34
  a44 := Tryz.isAgg34
  z44 := Tryz.sizeOf34
  v44 := Tryz.zeroValue34
  t46 := Tryz.underlying24
  a46 := Tryz.isAgg24
  z46 := Tryz.sizeOf24
  v46 := Tryz.zeroValue24
  t53 := Tryz.underlying288
  a53 := Tryz.isAgg288
  z53 := Tryz.sizeOf288
  v53 := Tryz.zeroValue288
  t57 := Tryz.underlying292
  a57 := Tryz.isAgg292
  z57 := Tryz.sizeOf292
  v57 := Tryz.zeroValue292
  t63 := Tryz.underlying300
  a63 := Tryz.isAgg300
  z63 := Tryz.sizeOf300
  v63 := Tryz.zeroValue300
  t64 := Tryz.underlying301
  a64 := Tryz.isAgg301
  z64 := Tryz.sizeOf301
  v64 := Tryz.zeroValue301 }
end Go.Proofs
end

section
/- A disk is flushed: the dirty map's keys, sorted. -/
set_option linter.unusedVariables false
set_option linter.unusedSimpArgs false
namespace Go.Proofs.YtbcamfbbooggfaaGreat.F
open Go.RowKit Go.Proofs.YtbcamfbbooggfaaGreatW.PrintWords Go.Maps
attribute [local go_sem ↓] Go.wp_at_zero Go.wp_at_succ

theorem sortsK (m : Nat) : AnyZI.SortsIn Tryz.prog Tryz.sortedA_ren Fence.wide m :=
  ⟨fun blk off cap ss W hH hblk hsz => callsIn_wide.2 (AnyM.slices_Sort_int Tryz.sortA blk off cap ss W hH hblk hsz),
   fun p cap W => callsIn_wide.2 (AnyM.slices_Sort_int_none Tryz.sortA p cap W)⟩
theorem Keys_c (mb : Option Nat) (W : World) : Calls Tryz.prog 81 #[.map mb] W fun e w' => e = .returned (.func (.func 123) #[] #[.pointer (some ⟨W.heap.size, 0, none⟩)]) ∧ w' = W.alloc (.cells #[.map mb] 83) :=
  callsIn_wide.1 (AnyZI.keys_in Tryz.keysA Fence.wide 5 trivial rfl mb W)
theorem SortedK_c (g b nn : Nat) (D : DataW Unit) (w : World) (hown : w.ownsMap Tryz.prog 3 rdSec b nn D) (hg : g < w.heap.size) (hm : w.cell? ⟨g, 0, none⟩ = some (.map (some b))) (hsz : Maps.size D ≤ 4096) :
    Calls Tryz.prog 80 #[.func (.func 123) #[] #[.pointer (some ⟨g, 0, none⟩)]] w fun e w' => ∃ (v : Value) (ss : List Int), e = .returned v ∧ ss.Perm (intKeys D) ∧
      w'.ownsRow w.heap.size 3 1 v ss.length ((ss.mergeSort (fun x y => decide (x ≤ y))).map encZ) ∧ (v = .slice none 0 0 ↔ ss = []) ∧ Below w.heap.size w w' :=
  callsIn_wide.1 (AnyZI.sorted_in Tryz.sortedA Fence.wide 5 trivial trivial trivial trivial rfl (by omega) (sortsK _) (enters_of Tryz.func122 (by kernel_rfl) rfl) 123 #[.pointer (some ⟨g, 0, none⟩)] trivial (enters_of Tryz.func123 (by kernel_rfl) rfl) _ (Maps.size D) (by unfold maxLen; omega) (by omega) w
    (AnyZI.keys_gives (ρ := Tryz.keysA_ren) { Tryz.keysA with } Fence.wide _ trivial rfl (by omega) g b nn D w hg hm hown))
theorem mem_intKeys {es : List (Lit × DataW Unit)} (hk : ∀ p ∈ es, ∃ x, p.1 = .int .i64 x) (x : Int) : x ∈ intKeys (.map es) ↔ has (.map es) (.int .i64 x) = true := by
  rw [has_eq, List.any_eq_true]
  show x ∈ es.map (fun p => Go.intOf p.1) ↔ _
  rw [List.mem_map]
  constructor
  · rintro ⟨p, hp', rfl⟩
    obtain ⟨a, ha⟩ := hk p hp'
    exact ⟨p, hp', by rw [ha]; simp [Lit.sameKey, Go.intOf]⟩
  · rintro ⟨p, hp', hs⟩
    obtain ⟨a, ha⟩ := hk p hp'
    rw [ha] at hs
    exact ⟨p, hp', by rw [ha]; simpa [Lit.sameKey, Go.intOf] using hs⟩
/-- The dirty map's keys, sorted. -/
theorem Dirt.keys {W : World} {b n : Nat} {D : DataW Unit} {m : List (Nat × Sec × List Nat)} (h : Dirt D m) (hown : W.ownsMap Tryz.prog 3 rdSec b n D) {ss : List Int} (hp : ss.Perm (intKeys D)) :
    ∃ ks : List Nat, ss.mergeSort (fun x y => decide (x ≤ y)) = ks.map (fun k : Nat => (k : Int)) ∧ ks.length = ss.length ∧ ks.Nodup ∧ ∀ k, k ∈ ks ↔ (lk m k).isSome = true := by
  obtain ⟨es, hD, hpw, _⟩ := hown.entries lawK
  obtain ⟨es', hD', hko⟩ := hown.keysOf
  obtain rfl : es = es' := by rw [hD] at hD'; simpa using hD'
  subst hD
  have hk : ∀ p ∈ es, ∃ x, p.1 = .int .i64 x := fun p hp => by obtain ⟨v, hv⟩ := hko p hp; obtain ⟨x, _, hx, _⟩ := Maps.keyOf_i64 Tryz.underlying3 hv; exact ⟨x, hx⟩
  have hnd : (intKeys (.map es)).Nodup := by
    show (es.map fun p => Go.intOf p.1).Nodup
    refine List.pairwise_map.2 (hpw.imp_of_mem fun {p q} hp' hq' hne e => hne ?_)
    obtain ⟨a, ha⟩ := hk p hp'
    obtain ⟨b, hb⟩ := hk q hq'
    rw [ha, hb] at e ⊢
    exact congrArg _ e
  obtain ⟨ht, hn, hs, hl⟩ := h
  have hlen : (intKeys (.map es)).length = m.length := by
    rw [← hs]
    simp [intKeys, Maps.size]
  have hsome : ∀ k ∈ m.map (·.1), (lk m k).isSome = true := fun k hk => by
    cases e : lk m k with
    | some s => rfl
    | none => exact absurd hk (lk_none_notin e)
  have hnat : ∀ x ∈ intKeys (.map es), ∃ k ∈ m.map (·.1), x = ((k : Nat) : Int) := by
    intro x hx
    refine Classical.byContradiction fun hc => ?_
    have h1 : (x :: (m.map (·.1)).map (fun k : Nat => (k : Int))).Nodup := by
      rw [List.nodup_cons]
      refine ⟨fun hm => ?_, List.pairwise_map.2 (hn.imp fun {a b} hab e => hab (by omega))⟩
      obtain ⟨k, hk1, hk2⟩ := List.mem_map.1 hm
      exact hc ⟨k, hk1, hk2.symm⟩
    have h2 := List.Nodup.length_le_of_subset h1 (l₂ := intKeys (.map es)) (fun y hy => by
      rcases List.mem_cons.1 hy with rfl | hy
      · exact hx
      · obtain ⟨k, hk1, rfl⟩ := List.mem_map.1 hy
        rw [mem_intKeys hk, (hl k).1]
        exact hsome k hk1)
    simp at h2
    omega
  have hpm : (ss.mergeSort (fun x y => decide (x ≤ y))).Perm (intKeys (.map es)) := (List.mergeSort_perm _ _).trans hp
  obtain ⟨tt, htt⟩ : ∃ tt, ss.mergeSort (fun x y => decide (x ≤ y)) = tt := ⟨_, rfl⟩
  have hlt : tt.length = ss.length := by rw [← htt]; exact List.length_mergeSort _
  rw [htt] at hpm ⊢
  have hpos : ∀ x ∈ tt, ((x.toNat : Nat) : Int) = x := fun x hx => by
    obtain ⟨k, _, rfl⟩ := hnat x (hpm.mem_iff.1 hx)
    simp
  refine ⟨tt.map Int.toNat, ?_, by simp [hlt], ?_, fun k => ?_⟩
  · rw [List.map_map]
    conv => lhs; rw [← List.map_id tt]
    exact List.map_congr_left fun x hx => (hpos x hx).symm
  · have := hpm.nodup_iff.2 hnd
    refine List.pairwise_map.2 (this.imp_of_mem fun {p q} hp' hq' hne e => hne ?_)
    rw [← hpos p hp', ← hpos q hq', e]
  · rw [List.mem_map]
    constructor
    · rintro ⟨x, hx, rfl⟩
      have h1 := hpm.mem_iff.1 hx
      rw [mem_intKeys hk, ← hpos x hx, (hl _).1] at h1
      exact h1
    · intro hs
      rw [← (hl k).1, ← mem_intKeys hk] at hs
      exact ⟨k, hpm.mem_iff.2 hs, by simp⟩
/-- A sector is sure. -/
theorem DK.setRow {W : World} {b gs mb n : Nat} {sb : List (List Nat)} {dm : List (Nat × Sec × List Nat)} {trip : Int} {down : Bool} {life : Nat} (h : DK W b gs mb n sb dm trip down life) (k : Nat) (s : Sec × List Nat) (hs : lk dm k = some s) :
    DK (W.setCell ⟨gs, k, none⟩ (secV s.1)) b gs mb n (sb.set k s.2) dm trip down life := by
  obtain ⟨n1, n2, n3⟩ := h.ne
  obtain ⟨⟨cs, sv, row, h1, h2, h3, h4, h5, h6⟩, hl, ⟨D0, h7, h8⟩, h9, h10⟩ := h
  have hks := h9 _ (lk_mem hs)
  have hu : ∀ (g : Nat) (cs : Array Value) (x : Nat × Nat), W.heap[g]? = some (Obj.cells cs 5 x) → (W.setCell ⟨gs, k, none⟩ (secV s.1)).heap[g]? = W.heap[g]? := fun g cs x hh => heap_setCell_other _ _ _ _ (fun e => by
    have e : g = gs := e
    rw [e, h4] at hh; injection hh with hh; injection hh with _ hh _; exact absurd hh (by decide))
  have hrl : ∀ i, i < sv.length → i < row.size := fun i hi => (Array.getElem?_eq_some_iff.1 (h5 i hi)).1
  refine ⟨⟨cs, sv.set k s.1, row.setIfInBounds k (secV s.1), (heap_setCell_other _ _ _ _ (fun e => n1 e)).trans h1, h2, by simp [h3], heap_setCell_same W gs k _ _ _ h4, fun i hi => ?_, fun i hi hh => ?_⟩, by simp [hl], ⟨D0, h7.setCell (fun e => n3 (Eq.symm e)) _, h8⟩, fun x hx => ⟨(h9 x hx).1, (h9 x hx).2.move hu⟩, h10⟩
  · have hi' : i < sv.length := by simpa using hi
    by_cases e : i = k
    · subst e
      simp [hrl i hi']
    · rw [Array.getElem?_setIfInBounds, if_neg (fun e2 => e e2.symm), h5 i hi', List.getElem_set, if_neg (fun e2 => e e2.symm)]
  · have hi' : i < sv.length := by simpa using hi
    have hh' : i < sb.length := by simpa using hh
    rw [List.getElem_set, List.getElem_set]
    by_cases e : k = i
    · rw [if_pos e, if_pos e]
      exact hks.2.move hu
    · rw [if_neg e, if_neg e]
      exact (h6 i hi' hh').move hu
theorem readN_set {sb : List (List Nat)} {dm : List (Nat × Sec × List Nat)} {k : Nat} {s : Sec × List Nat} (hs : lk dm k = some s) (hk : k < sb.length) (i : Nat) : readN (sb.set k s.2) (without dm k) i = readN sb dm i := by
  unfold readN
  by_cases e : i = k
  · subst e
    rw [lk_without_same, hs]
    simp [hk]
  · rw [lk_without_other _ _ _ e]
    cases lk dm i with
    | some s => rfl
    | none => simp [List.getElem?_set, Ne.symm e]
theorem lk_nil {dm : List (Nat × Sec × List Nat)} (h : ∀ k, ¬ (lk dm k).isSome = true) : dm = [] := by
  cases dm with
  | nil => rfl
  | cons x m => exact absurd (by simp [lk]) (h x.1)
end Go.Proofs.YtbcamfbbooggfaaGreat.F
end
