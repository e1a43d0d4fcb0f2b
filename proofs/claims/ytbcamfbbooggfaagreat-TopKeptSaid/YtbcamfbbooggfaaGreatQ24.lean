/- Part 24 of the proof: H1, H2, H3. -/
import Derived.Test.YtbcamfbbooggfaaGreatQ23
import Derived.Test.YtbcamfbbooggfaaGreatQ13
import Derived.Test.YtbcamfbbooggfaaGreatQ16

section
/- A shelf at hand. -/
set_option linter.unusedVariables false
set_option linter.unusedSimpArgs false
namespace Go.Proofs.YtbcamfbbooggfaaGreat.F
open Go.RowKit Go.Proofs.YtbcamfbbooggfaaGreatW.PrintWords Go.Maps
attribute [local go_sem ↓] Go.wp_at_zero Go.wp_at_succ

def runV (r : Sec) : Value := .agg #[.int .i64 (r.1 : Nat), .int .i64 (r.2 : Nat)]
/-- How a run in the map of containers reads. -/
def rdRun : Value → Option (DataW Unit × List MemPlace)
  | .agg a => match a.toList with
    | [.int .i64 x, .int .i64 y] => some (.agg [.lit (.int .i64 x), .lit (.int .i64 y)], [])
    | _ => none
  | _ => none
theorem rdRun_mk (r : Sec) : rdRun (runV r) = some (secD r, []) := rfl
theorem rdRun_inv {v : Value} {r : Sec} {ps : List MemPlace} (h : rdRun v = some (secD r, ps)) : v = runV r := by
  unfold rdRun at h
  split at h
  · rename_i a
    split at h
    · rename_i x y e
      simp only [secD, Option.some.injEq, Prod.mk.injEq, DataW.agg.injEq, List.cons.injEq, DataW.lit.injEq, Lit.int.injEq, true_and, and_true] at h
      obtain ⟨⟨h1, h2⟩, _⟩ := h
      have ea : a = #[.int .i64 x, .int .i64 y] := by rw [← Array.toArray_toList (xs := a), e]
      rw [ea, h1, h2]
      rfl
    · cases h
  · cases h
theorem zeroRun (w : World) : (zeroValue 51).run Tryz.prog w = .ok (runV (0, 0)) w := by kernel_rfl
/-- A shelf: its block; its disk, its room, its map of containers; what they are. -/
structure SH (W : World) (s db er rb : Nat) (m : List (Nat × Sec × List Nat)) : Prop where
  body : W.heap[s]? = some (.cells #[.pointer (some ⟨db, 0, none⟩), .pointer (some ⟨er, 0, none⟩), .map (some rb)] 93 (0, 0))
  map : ∃ D, W.ownsMap Tryz.prog 3 rdRun rb (Maps.size D) D ∧ Dirt D m
  small : ∀ x ∈ m, x.1 < 4096
theorem SH.move {W W' : World} {s db er rb : Nat} {m : List (Nat × Sec × List Nat)} (h : SH W s db er rb m) (h1 : W'.heap[s]? = W.heap[s]?) (h2 : W'.heap[rb]? = W.heap[rb]?) : SH W' s db er rb m := by
  obtain ⟨b, ⟨D, ⟨es, clock, q1, q2⟩, q3⟩, k⟩ := h
  exact ⟨h1.trans b, ⟨D, ⟨es, clock, h2.trans q1, q2⟩, q3⟩, k⟩
theorem SH.lt {W : World} {s db er rb : Nat} {m : List (Nat × Sec × List Nat)} (h : SH W s db er rb m) : s < W.heap.size ∧ rb < W.heap.size ∧ s ≠ rb := by
  obtain ⟨b, ⟨D, h2, _⟩, _⟩ := h
  refine ⟨(Array.getElem?_eq_some_iff.1 b).1, h2.lt, fun e => ?_⟩
  obtain ⟨es, clock, q1, _⟩ := h2
  rw [← e, b] at q1
  cases q1
theorem SH.below {W W' : World} {s db er rb : Nat} {m : List (Nat × Sec × List Nat)} (h : SH W s db er rb m) (hb : Below W.heap.size W W') : SH W' s db er rb m := h.move (hb.block _ h.lt.1) (hb.block _ h.lt.2.1)
theorem SH.cells {W : World} {s db er rb : Nat} {m : List (Nat × Sec × List Nat)} (h : SH W s db er rb m) : W.cell? ⟨s, 0, none⟩ = some (.pointer (some ⟨db, 0, none⟩)) ∧ W.cell? ⟨s, 1, none⟩ = some (.pointer (some ⟨er, 0, none⟩)) ∧ W.cell? ⟨s, 2, none⟩ = some (.map (some rb)) := by
  refine ⟨?_, ?_, ?_⟩ <;> (rw [cell_of_row _ _ _ _ _ _ h.body]; rfl)
set_option maxHeartbeats 1000000 in
theorem known_c {s db er rb : Nat} {m : List (Nat × Sec × List Nat)} (k : Nat) (w : World) (h : SH w s db er rb m) (hk : k ≤ 1000000) :
    Calls Tryz.prog 31 #[.pointer (some ⟨s, 0, none⟩), .int .i64 (k : Nat)] w fun e w' => e = .returned (.bool (lk m k).isSome) ∧ Below w.heap.size w w' := by
  obtain ⟨k0, k1, k2⟩ := h.cells
  obtain ⟨D, hown, hD⟩ := h.map
  have hkey := keyOfI k hk
  have hhas := (hD.2.2.2 k).1
  have hat := (hD.2.2.2 k).2
  have HOWN := Lib.hid hown
  have HD := Lib.hid hD
  clear h hown hD
  cases hlk : lk m k with
  | some r =>
    rw [hlk] at hhas
    have hat' := hat r hlk
    have hhas' : Maps.has D (.int .i64 (k : Nat)) = true := hhas
    have HAT := Lib.hid hat'
    have HH := Lib.hid hhas'
    clear hhas hat hat' hhas' hlk
    go_enter Tryz.func31, Tryz.ntmps31
    go_wp2_with (at_lookup; refine wpList_lookup_own_ok _ rfl _ _ 91 rfl 3 51 lawK Tryz.underlying91 rdRun (zeroRun _) (secD (0, 0)) [] (rdRun_mk _) rb _ D rfl HOWN.out _ _ rfl hkey ?_; intro v ps hv; rw [HAT.out] at hv; obtain rfl := rdRun_inv hv; rw [HH.out]; unfold runV)
    go_ret
    exact ⟨rfl, (Below.refl _ _).alloc (Nat.le_refl _) _⟩
  | none =>
    rw [hlk] at hhas
    have hhas' : Maps.has D (.int .i64 (k : Nat)) = false := hhas
    have hno : D.atKey (.int .i64 (k : Nat)) (secD (0, 0)) = secD (0, 0) := Maps.atKey_of_not_has hhas' _
    have HAT := Lib.hid hno
    have HH := Lib.hid hhas'
    clear hhas hat hhas' hlk hno
    go_enter Tryz.func31, Tryz.ntmps31
    go_wp2_with (at_lookup; refine wpList_lookup_own_ok _ rfl _ _ 91 rfl 3 51 lawK Tryz.underlying91 rdRun (zeroRun _) (secD (0, 0)) [] (rdRun_mk _) rb _ D rfl HOWN.out _ _ rfl hkey ?_; intro v ps hv; rw [HAT.out] at hv; obtain rfl := rdRun_inv hv; rw [HH.out]; unfold runV)
    go_ret
    exact ⟨rfl, (Below.refl _ _).alloc (Nat.le_refl _) _⟩
set_option maxHeartbeats 1000000 in
theorem BNew_c (db er : Nat) (w : World) :
    Calls Tryz.prog 8 #[.pointer (some ⟨db, 0, none⟩), .pointer (some ⟨er, 0, none⟩)] w fun e w' => ∃ s rb, e = .returned (.tuple #[.pointer (some ⟨s, 0, none⟩), .int .i64 0]) ∧ SH w' s db er rb [] ∧ w.heap.size ≤ s ∧ w.heap.size ≤ rb ∧ Below w.heap.size w w' := by
  have hm0 := World.ownsMap_made w Tryz.prog 3 rdRun
  have hm1 := hm0.alloc (.cells #[.pointer (some ⟨db, 0, none⟩), .pointer (some ⟨er, 0, none⟩), .map (some w.heap.size)] 93)
  have hba : Below w.heap.size w (w.alloc (.map #[] 0)) := (Below.refl _ _).alloc (Nat.le_refl _) _
  have hbb : Below w.heap.size w ((w.alloc (.map #[] 0)).alloc (.cells #[.pointer (some ⟨db, 0, none⟩), .pointer (some ⟨er, 0, none⟩), .map (some w.heap.size)] 93)) := hba.alloc (by simp) _
  have hg1 : ((w.alloc (.map #[] 0)).alloc (.cells #[.pointer (some ⟨db, 0, none⟩), .pointer (some ⟨er, 0, none⟩), .map (some w.heap.size)] 93)).heap[w.heap.size + 1]? = some (.cells #[.pointer (some ⟨db, 0, none⟩), .pointer (some ⟨er, 0, none⟩), .map (some w.heap.size)] 93 (0, 0)) := by
    have := heap_alloc_new (w.alloc (.map #[] 0)) (.cells #[.pointer (some ⟨db, 0, none⟩), .pointer (some ⟨er, 0, none⟩), .map (some w.heap.size)] 93)
    simpa using this
  have HB := Lib.hid hbb
  have HG := Lib.hid hg1
  have HM := Lib.hid hm1
  clear hm0 hba hbb hg1 hm1
  have hmm := @run_makeMap Tryz.prog
  go_enter Tryz.func8, Tryz.ntmps8
  go_wp2_with fail
  go_ret2
  exact ⟨w.heap.size + 1, w.heap.size, rfl, ⟨HG.out, ⟨.map [], HM.out, Dirt.nil⟩, fun x hx => by cases hx⟩, by omega, Nat.le_refl _, HB.out⟩
end Go.Proofs.YtbcamfbbooggfaaGreat.F
end

section
/- A shelf writes sectors. -/
set_option linter.unusedVariables false
set_option linter.unusedSimpArgs false
namespace Go.Proofs.YtbcamfbbooggfaaGreat.F
open Go.RowKit Go.Proofs.YtbcamfbbooggfaaGreatW.PrintWords Go.Maps
attribute [local go_sem ↓] Go.wp_at_zero Go.wp_at_succ

theorem readN_put (sb : List (List Nat)) (dm : List (Nat × Sec × List Nat)) (k : Nat) (s : Sec) (bs : List Nat) (i : Nat) : readN sb ((k, s, bs) :: without dm k) i = if i = k then bs else readN sb dm i := by
  unfold readN
  by_cases e : i = k
  · subst e
    rw [lk_cons_same, if_pos rfl]
  · rw [lk_cons_other _ _ _ _ e, lk_without_other _ _ _ e, if_neg e]
theorem yieldsIf_slice {P : Program} {ops : Array Oper} {S : World → Prop} {op : Oper} {a : Act} (hw : Region.wanted op (yielded ops a.tmps) = true) (t : TypeId) (x lo hi : Operand) (ho : op.op = .slice t x (some lo) (some hi) none) (xv lv hv : Value) (hx : a.eval x = xv) (hl : a.eval lo = lv) (hh : a.eval hi = hv)
    (e : TypeId) (ht : P.underlying t = some (.slice e)) (v : Value) (hrun : ∀ W : World, (Instr.slice t xv (some lv) (some hv) none).run P W = .ok v W) : YieldsIf P ops S op v a :=
  .inl ⟨hw, fun w hw' => by
    have he : P.underlying t = some (.slice (P.elem t)) := by rw [ht]; simp [Program.elem, ht]
    unfold execOp
    simp only [run_sliceAt_slice w t xv (some lv) (some hv) none he, ho, hx, hl, hh, Option.map_some, Option.map_none, Sem.run_bind, Sem.run_pure, hrun, Result.andThen_ok]⟩
/-- The i-th sector of bytes. -/
def secN (bs : List Nat) (i : Nat) : List Nat := (bs.drop (i * 128)).take 128
set_option maxRecDepth 20000 in
set_option maxHeartbeats 2000000 in
theorem GWrite_c {db gs mb n : Nat} {sb : List (List Nat)} {dm : List (Nat × Sec × List Nat)} {life : Nat} (s at0 N : Nat) (A : Option Addr) (c : Nat) (bs : List Nat) (w : World) (h : DK w db gs mb n sb dm 0 false life) (hs : w.cell? ⟨s, 0, none⟩ = some (.pointer (some ⟨db, 0, none⟩))) (hsl : s < w.heap.size) (hsn : s ≠ db ∧ s ≠ gs ∧ s ≠ mb)
    (hr : RV 5 w A bs.length (bs.map (encN .u8))) (hc : bs.length ≤ c) (hb : ∀ x ∈ bs, x < 256) (hl : bs.length = N * 128) (hN : at0 + N ≤ n) :
    Calls Tryz.prog 33 #[.pointer (some ⟨s, 0, none⟩), .agg #[.int .i64 (at0 : Nat), .int .i64 (N : Nat)], .slice A bs.length c] w fun e w' => e = .returned (.int .i64 0) ∧ (∃ dm', DK w' db gs mb n sb dm' 0 false life ∧ ∀ i, readN sb dm' i = if at0 ≤ i ∧ i < at0 + N then secN bs (i - at0) else readN sb dm i) ∧ Gr (DS db gs mb) w w' := by
  obtain ⟨W1, hW1⟩ : ∃ W1, w.alloc (.cells #[.int .i64 (at0 : Nat), .int .i64 (N : Nat)] 51) = W1 := ⟨_, rfl⟩
  have hb1 : Below w.heap.size w W1 := by rw [← hW1]; exact (Below.refl _ _).alloc (Nat.le_refl _) _
  have hg1 : W1.heap[w.heap.size]? = some (.cells #[.int .i64 (at0 : Nat), .int .i64 (N : Nat)] 51 (0, 0)) := by rw [← hW1]; exact heap_alloc_new _ _
  have hsm := h.small
  have hlt := h.lt
  have hd1 := h.below hb1
  have hr1 := hr.below hb1
  have hs1 := (hb1.cell (p := ⟨s, 0, none⟩) hsl).trans hs
  have hsz1 := hb1.size
  have HW1 := Lib.hid hW1
  have HB1 := Lib.hid hb1
  have HG1 := Lib.hid hg1
  have HD1 := Lib.hid hd1
  have HR1 := Lib.hid hr1
  have HBB := Lib.hid hb
  have kN : W1.cell? ⟨w.heap.size, 1, none⟩ = some (.int .i64 (N : Nat)) := by rw [cell_of_row _ _ _ _ _ _ hg1]; rfl
  clear hW1 hb1 hg1 hd1 hr1 hb h hr hs
  obtain ⟨gr, hgr⟩ : ∃ gr, w.heap.size = gr := ⟨_, rfl⟩
  have HGS := Lib.hid hgr
  rw [hgr] at kN
  clear hgr
  go_enter Tryz.func33, Tryz.ntmps33
  go_wp2_with (first | (rw [HW1.out]) | (rw [HGS.out]))
  go_loopw [11] (fun vi W => ∃ (i : Nat) (dm' : List (Nat × Sec × List Nat)), i ≤ N ∧ vi = .int .i64 (i : Nat) ∧ DK W db gs mb n sb dm' 0 false life ∧ (∀ j, readN sb dm' j = if at0 ≤ j ∧ j < at0 + i then secN bs (j - at0) else readN sb dm j) ∧ Gr (DS db gs mb) W1 W) (fun vi _ => N - (RowKit.intOf vi).toNat)
  case atStart => exact ⟨0, dm, by omega, rfl, HD1.out, fun j => by rw [if_neg (by omega)], Gr.refl _ _⟩
  case round =>
    obtain ⟨i, dm', hi, rfl, hd, hrd, hgr⟩ := hrel
    have hszr := hgr.size
    have kg : wr.heap[gr]? = some (.cells #[.int .i64 (at0 : Nat), .int .i64 (N : Nat)] 51 (0, 0)) := by
      have h1 := HG1.out
      rw [HGS.out] at h1
      exact (hgr.block gr (Array.getElem?_eq_some_iff.1 h1).1 (by have := HGS.out; rintro (e | e | e) <;> omega)).trans h1
    have k0 : wr.cell? ⟨gr, 0, none⟩ = some (.int .i64 (at0 : Nat)) := by rw [cell_of_row _ _ _ _ _ _ kg]; rfl
    have ks : wr.cell? ⟨s, 0, none⟩ = some (.pointer (some ⟨db, 0, none⟩)) := (cell_move (a := ⟨s, 0, none⟩) (hgr.block s (by omega) (by rintro (e | e | e) <;> omega))).trans hs1
    have hrv := HR1.out.ds HD1.out hgr (by decide) (by decide)
    by_cases hlt2 : i < N
    · have d1 : decide ((i : Int) < (N : Int)) = true := decide_eq_true (by omega)
      obtain ⟨i0, hi0, hz0, hz1, _⟩ := info_parts info_u8
      obtain ⟨lo, hlo⟩ : ∃ lo, i * 128 = lo := ⟨_, rfl⟩
      obtain ⟨i1, hi1⟩ : ∃ i1, i + 1 = i1 := ⟨_, rfl⟩
      obtain ⟨hh, hhh⟩ : ∃ hh, i1 * 128 = hh := ⟨_, rfl⟩
      obtain ⟨ai, hai⟩ : ∃ ai, at0 + i = ai := ⟨_, rfl⟩
      obtain ⟨A', hx, hy⟩ := RN.mid (P := Tryz.prog) 25 5 .u8 Tryz.underlying25 hi0 hz1 A bs.length c lo hh (by omega) (by omega) hc
      have hy' := hy wr bs rfl hrv.rn
      have e128 : hh - lo = 128 := by omega
      rw [e128] at hx hy'
      have hsec : (bs.drop lo).take 128 = secN bs i := by rw [← hlo]; rfl
      rw [hsec] at hy'
      have hsl : (secN bs i).length = 128 := by unfold secN; rw [List.length_take, List.length_drop]; omega
      have hsb : ∀ x ∈ secN bs i, x < 256 := fun x hx => HBB.out x (List.mem_of_mem_drop (List.mem_of_mem_take hx))
      have hdw := DWrite_c ai A' (c - lo) (secN bs i) wr.drew (hd.below (Below.refl _ _).drew) (by omega) (hy'.below (Below.refl _ _).drew) (by omega) (by omega) (by omega) hsb
      rw [hsl, wholeN_full _ hsl] at hdw
      have w1 : IntKind.i64.wrap ((at0 : Int) + (i : Int)) = (ai : Int) := by rw [IntKind.wrap_i64]; omega
      have w2 : IntKind.i64.wrap ((i : Int) * 128) = (lo : Int) := by rw [IntKind.wrap_i64]; omega
      have w3 : IntKind.i64.wrap ((i : Int) + 1) = (i1 : Int) := by rw [IntKind.wrap_i64]; omega
      have w4 : IntKind.i64.wrap ((i1 : Int) * 128) = (hh : Int) := by rw [IntKind.wrap_i64]; omega
      have HDW := Lib.hid hdw
      have HRD := Lib.hid hrd
      have HGR := Lib.hid hgr
      have HL := Lib.hid hl
      clear hd hrd hgr kg hrv hy hy' hdw hsec hsl hsb e128 hl
      go_wp2_with fail
      refine wp_region_late [3, 5] (fun w' => w'.cell? ⟨s, 0, none⟩ = some (.pointer (some ⟨db, 0, none⟩)) ∧ w'.cell? ⟨gr, 0, none⟩ = some (.int .i64 (at0 : Nat))) (by kernel_rfl) ⟨ks, k0⟩ (fun hT => ?_)
      refine WL.take (i := 0) (v := ?_) rfl (by kernel_rfl) (by kernel_rfl) (by kernel_rfl) (by kernel_rfl) (fun _ _ _ h => h) (Or.inl ⟨by rfl, ?_⟩) (by assumption) ?_
      rotate_left 1
      · (intro w' hSw; (try (replace hSw := hSw (by decide); dsimp only at hSw)); go_split_ands; go_simp; try with_reducible rfl)
      simp only [Act.put, List.getElem_toArray, List.getElem_cons_zero, List.getElem_cons_succ, List.setIfInBounds_toArray, List.set_cons_zero, List.set_cons_succ]
      refine WL.take (i := 1) (v := ?_) rfl (by kernel_rfl) (by kernel_rfl) (by kernel_rfl) (by kernel_rfl) (fun _ _ _ h => h) (Or.inl ⟨by rfl, ?_⟩) (by assumption) ?_
      rotate_left 1
      · (intro w' hSw; (try (replace hSw := hSw (by decide); dsimp only at hSw)); go_split_ands; go_simp; try with_reducible rfl)
      simp only [Act.put, List.getElem_toArray, List.getElem_cons_zero, List.getElem_cons_succ, List.setIfInBounds_toArray, List.set_cons_zero, List.set_cons_succ]
      refine WL.take (i := 2) (v := ?_) rfl (by kernel_rfl) (by kernel_rfl) (by kernel_rfl) (by kernel_rfl) (fun _ _ _ h => h) (Or.inl ⟨by rfl, ?_⟩) (by assumption) ?_
      rotate_left 1
      · (intro w' hSw; (try (replace hSw := hSw (by decide); dsimp only at hSw)); go_split_ands; go_simp; try with_reducible rfl)
      simp only [Act.put, List.getElem_toArray, List.getElem_cons_zero, List.getElem_cons_succ, List.setIfInBounds_toArray, List.set_cons_zero, List.set_cons_succ]
      refine WL.take (i := 3) (v := ?_) rfl (by kernel_rfl) (by kernel_rfl) (by kernel_rfl) (by kernel_rfl) (fun _ _ _ h => h) (Or.inl ⟨by rfl, ?_⟩) (by assumption) ?_
      rotate_left 1
      · (intro w' hSw; (try (replace hSw := hSw (by decide); dsimp only at hSw)); go_split_ands; go_simp; try with_reducible rfl)
      simp only [Act.put, List.getElem_toArray, List.getElem_cons_zero, List.getElem_cons_succ, List.setIfInBounds_toArray, List.set_cons_zero, List.set_cons_succ]
      refine WL.take (i := 4) (v := ?_) rfl (by kernel_rfl) (by kernel_rfl) (by kernel_rfl) (by kernel_rfl) (fun _ _ _ h => h) (Or.inl ⟨by rfl, ?_⟩) (by assumption) ?_
      rotate_left 1
      · (intro w' hSw; (try (replace hSw := hSw (by decide); dsimp only at hSw)); go_split_ands; go_simp; try with_reducible rfl)
      simp only [Act.put, List.getElem_toArray, List.getElem_cons_zero, List.getElem_cons_succ, List.setIfInBounds_toArray, List.set_cons_zero, List.set_cons_succ]
      refine WL.take (i := 5) (v := ?_) rfl (by kernel_rfl) (by kernel_rfl) (by kernel_rfl) (by kernel_rfl) (fun _ _ _ h => h) (Or.inl ⟨by rfl, ?_⟩) (by assumption) ?_
      rotate_left 1
      · (intro w' hSw; (try (replace hSw := hSw (by decide); dsimp only at hSw)); go_split_ands; go_simp; try with_reducible rfl)
      simp only [Act.put, List.getElem_toArray, List.getElem_cons_zero, List.getElem_cons_succ, List.setIfInBounds_toArray, List.set_cons_zero, List.set_cons_succ]
      refine WL.take (i := 6) (v := ?_) rfl (by kernel_rfl) (by kernel_rfl) (by kernel_rfl) (by kernel_rfl) (fun _ _ _ h => h) (Or.inl ⟨by rfl, ?_⟩) (by assumption) ?_
      rotate_left 1
      · (intro w' hSw; (try (replace hSw := hSw (by decide); dsimp only at hSw)); go_split_ands; go_simp; try with_reducible rfl)
      simp only [Act.put, List.getElem_toArray, List.getElem_cons_zero, List.getElem_cons_succ, List.setIfInBounds_toArray, List.set_cons_zero, List.set_cons_succ]
      refine WL.take (i := 7) (v := ?_) rfl (by kernel_rfl) (by kernel_rfl) (by kernel_rfl) (by kernel_rfl) (fun _ _ _ h => h) (Or.inl ⟨by rfl, ?_⟩) (by assumption) ?_
      rotate_left 1
      · (intro w' hSw; (try (replace hSw := hSw (by decide); dsimp only at hSw)); go_split_ands; go_simp; try with_reducible rfl)
      simp only [Act.put, List.getElem_toArray, List.getElem_cons_zero, List.getElem_cons_succ, List.setIfInBounds_toArray, List.set_cons_zero, List.set_cons_succ]
      refine WL.take (i := 8) (v := ?_) rfl (by kernel_rfl) (by kernel_rfl) (by kernel_rfl) (by kernel_rfl) (fun _ _ _ h => h) (Or.inl ⟨by rfl, ?_⟩) (by assumption) ?_
      rotate_left 1
      · (intro w' hSw; (try (replace hSw := hSw (by decide); dsimp only at hSw)); go_split_ands; go_simp; try with_reducible rfl)
      simp only [Act.put, List.getElem_toArray, List.getElem_cons_zero, List.getElem_cons_succ, List.setIfInBounds_toArray, List.set_cons_zero, List.set_cons_succ]
      refine WL.take (i := 9) (v := ?_) rfl (by kernel_rfl) (by kernel_rfl) (by kernel_rfl) (by kernel_rfl) (fun _ _ _ h => h) (Or.inl ⟨by rfl, ?_⟩) (by assumption) ?_
      rotate_left 1
      · (intro w' hSw; (try (replace hSw := hSw (by decide); dsimp only at hSw)); go_split_ands; go_simp; try with_reducible rfl)
      simp only [Act.put, List.getElem_toArray, List.getElem_cons_zero, List.getElem_cons_succ, List.setIfInBounds_toArray, List.set_cons_zero, List.set_cons_succ]
      refine WL.take (i := 10) (v := ?_) rfl (by kernel_rfl) (by kernel_rfl) (by kernel_rfl) (by kernel_rfl) (fun _ _ _ h => h) (Or.inl ⟨by rfl, ?_⟩) (by assumption) ?_
      rotate_left 1
      · (intro w' hSw; (try (replace hSw := hSw (by decide); dsimp only at hSw)); go_split_ands; go_simp; try with_reducible rfl)
      simp only [Act.put, List.getElem_toArray, List.getElem_cons_zero, List.getElem_cons_succ, List.setIfInBounds_toArray, List.set_cons_zero, List.set_cons_succ]
      refine WL.take (i := 11) (v := ?_) rfl (by kernel_rfl) (by kernel_rfl) (by kernel_rfl) (by kernel_rfl) (fun _ _ _ h => h) (Or.inl ⟨by rfl, ?_⟩) (by assumption) ?_
      rotate_left 1
      · (intro w' hSw; (try (replace hSw := hSw (by decide); dsimp only at hSw)); go_split_ands; go_simp; try with_reducible rfl)
      simp only [Act.put, List.getElem_toArray, List.getElem_cons_zero, List.getElem_cons_succ, List.setIfInBounds_toArray, List.set_cons_zero, List.set_cons_succ]
      refine WL.take (i := 12) (v := ?_) rfl (by kernel_rfl) (by kernel_rfl) (by kernel_rfl) (by kernel_rfl) (fun _ _ _ h => h) (Or.inl ⟨by rfl, ?_⟩) (by assumption) ?_
      rotate_left 1
      · (intro w' hSw; (try (replace hSw := hSw (by decide); dsimp only at hSw)); go_split_ands; go_simp; try with_reducible rfl)
      simp only [Act.put, List.getElem_toArray, List.getElem_cons_zero, List.getElem_cons_succ, List.setIfInBounds_toArray, List.set_cons_zero, List.set_cons_succ]
      refine WL.take (i := 13) (v := ?_) rfl (by kernel_rfl) (by kernel_rfl) (by kernel_rfl) (by kernel_rfl) (fun _ _ _ h => h) (Or.inl ⟨by rfl, ?_⟩) (by assumption) ?_
      rotate_left 1
      · (intro w' hSw; (try (replace hSw := hSw (by decide); dsimp only at hSw)); go_split_ands; go_simp; try with_reducible rfl)
      simp only [Act.put, List.getElem_toArray, List.getElem_cons_zero, List.getElem_cons_succ, List.setIfInBounds_toArray, List.set_cons_zero, List.set_cons_succ]
      refine WL.take (i := 14) (v := .slice A' 128 (c - lo)) rfl (by kernel_rfl) (by kernel_rfl) (by kernel_rfl) (by kernel_rfl) (fun _ _ _ h => h) (yieldsIf_slice (by rfl) _ _ _ _ rfl _ _ _ (by rfl) (by rfl) (by rfl) _ Tryz.underlying25 _ hx) (by assumption) ?_
      simp only [Act.put, List.getElem_toArray, List.getElem_cons_zero, List.getElem_cons_succ, List.setIfInBounds_toArray, List.set_cons_zero, List.set_cons_succ]
      refine WL.late (i := 15) (by kernel_rfl) rfl (by kernel_rfl) (fun K hK => ?_)
      go_simp
      go_at_call 69
      refine HDW.out.mono ?_
      rintro e w5 ⟨s5, rfl, hd5, hg5⟩
      have HD5 := Lib.hid hd5
      have HG5 := Lib.hid hg5
      clear hd5 hg5 HDW
      go_simp
      refine hK.out _ _ ?_
      clear hK K
      refine WL.late (i := 16) (by kernel_rfl) rfl (by kernel_rfl) (fun K hK => ?_)
      go_simp
      refine hK.out _ _ ?_
      clear hK K
      refine WL.done (by kernel_rfl) ?_ _
      go_wp2_with fail
      refine ⟨⟨i1, _, by omega, by go_num, HD5.out, fun j => ?_, HGR.out.trans ((Gr.of_below (DS db gs mb) (Below.refl _ wr).drew).trans HG5.out (fun x _ hx => hx)) (fun x _ hx => hx)⟩, by simp [RowKit.intOf]; omega⟩
      rw [readN_put, HRD.out j]
      by_cases e : j = ai
      · rw [if_pos e, if_pos (by omega)]
        congr 1
        omega
      · rw [if_neg e]
        by_cases e2 : at0 ≤ j ∧ j < at0 + i
        · rw [if_pos e2, if_pos (by omega)]
        · rw [if_neg e2, if_neg (by omega)]
    · have d1 : decide ((i : Int) < (N : Int)) = false := decide_eq_false (by omega)
      obtain rfl : i = N := by omega
      have HDK := Lib.hid hd
      have HRD := Lib.hid hrd
      have HGR := Lib.hid ((Gr.of_below (DS db gs mb) HB1.out).trans hgr (fun x _ hx => hx))
      clear hd hrd hgr hrv
      go_wp2_with fail
      go_ret
      exact ⟨rfl, ⟨dm', HDK.out, HRD.out⟩, HGR.out⟩
end Go.Proofs.YtbcamfbbooggfaaGreat.F
end

section
/- A shelf reads sectors. -/
set_option linter.unusedVariables false
set_option linter.unusedSimpArgs false
namespace Go.Proofs.YtbcamfbbooggfaaGreat.F
open Go.RowKit Go.Proofs.YtbcamfbbooggfaaGreatW.PrintWords Go.Maps
attribute [local go_sem ↓] Go.wp_at_zero Go.wp_at_succ

/-- The bytes of sectors. -/
def secsN (sb : List (List Nat)) (dm : List (Nat × Sec × List Nat)) (at0 N : Nat) : List Nat := ((List.range N).map (fun i => readN sb dm (at0 + i))).flatten
theorem secsN_succ (sb : List (List Nat)) (dm : List (Nat × Sec × List Nat)) (at0 i : Nat) : secsN sb dm at0 (i + 1) = secsN sb dm at0 i ++ readN sb dm (at0 + i) := by
  unfold secsN
  rw [List.range_succ, List.map_append, List.flatten_append]
  simp
set_option maxRecDepth 20000 in
set_option maxHeartbeats 2000000 in
theorem GRead_c {db gs mb n : Nat} {sb : List (List Nat)} {dm : List (Nat × Sec × List Nat)} {trip : Int} {life : Nat} (s at0 N : Nat) (w : World) (h : DK w db gs mb n sb dm trip false life) (hs : w.cell? ⟨s, 0, none⟩ = some (.pointer (some ⟨db, 0, none⟩))) (hsl : s < w.heap.size) (hN : at0 + N ≤ n) :
    Calls Tryz.prog 87 #[.pointer (some ⟨s, 0, none⟩), .agg #[.int .i64 (at0 : Nat), .int .i64 (N : Nat)]] w fun e w' => ∃ v, e = .returned (.tuple #[v, .int .i64 0]) ∧ OwnN .u8 5 w' w.heap.size v (secsN sb dm at0 N) ∧ Below w.heap.size w w' := by
  obtain ⟨W1, hW1⟩ : ∃ W1, w.alloc (.cells #[.int .i64 (at0 : Nat), .int .i64 (N : Nat)] 51) = W1 := ⟨_, rfl⟩
  have hb1 : Below w.heap.size w W1 := by rw [← hW1]; exact (Below.refl _ _).alloc (Nat.le_refl _) _
  have hg1 : W1.heap[w.heap.size]? = some (.cells #[.int .i64 (at0 : Nat), .int .i64 (N : Nat)] 51 (0, 0)) := by rw [← hW1]; exact heap_alloc_new _ _
  have hsm := h.small
  have hd1 := h.below hb1
  have hs1 := (hb1.cell (p := ⟨s, 0, none⟩) hsl).trans hs
  have hsz1 := hb1.size
  have hgl := (Array.getElem?_eq_some_iff.1 hg1).1
  have HW1 := Lib.hid hW1
  have HB1 := Lib.hid hb1
  have HD1 := Lib.hid hd1
  have kN : W1.cell? ⟨w.heap.size, 1, none⟩ = some (.int .i64 (N : Nat)) := by rw [cell_of_row _ _ _ _ _ _ hg1]; rfl
  have kA : W1.cell? ⟨w.heap.size, 0, none⟩ = some (.int .i64 (at0 : Nat)) := by rw [cell_of_row _ _ _ _ _ _ hg1]; rfl
  clear hW1 hb1 hg1 hd1 h hs
  obtain ⟨gr, hgr⟩ : ∃ gr, w.heap.size = gr := ⟨_, rfl⟩
  have HGS := Lib.hid hgr
  rw [hgr] at kN kA
  have HKA := Lib.hid kA
  have HKS := Lib.hid hs1
  clear hgr kA hs1
  go_enter Tryz.func87, Tryz.ntmps87
  go_wp2_with (first | (rw [HW1.out]) | (rw [HGS.out]))
  go_loopw [6, 12] (fun v vi W => ∃ (i : Nat), i ≤ N ∧ vi = .int .i64 (i : Nat) ∧ OwnN .u8 5 W W1.heap.size v (secsN sb dm at0 i) ∧ (secsN sb dm at0 i).length = i * 128 ∧ Below W1.heap.size W1 W) (fun v vi _ => N - (RowKit.intOf vi).toNat)
  case atStart => exact ⟨0, by omega, rfl, World.ownsRow_nil _ _ _ _, rfl, Below.refl _ _⟩
  case round =>
    obtain ⟨i, hi, rfl, ho, hlen, hB⟩ := hrel
    have hszr := hB.size
    have HO := Lib.hid ho
    have HB := Lib.hid hB
    by_cases hlt2 : i < N
    · have d1 : decide ((i : Int) < (N : Int)) = true := decide_eq_true (by omega)
      have k0 := (hB.cell (p := ⟨gr, 0, none⟩) (by have := HGS.out; show gr < _; omega)).trans HKA.out
      have ks := (hB.cell (p := ⟨s, 0, none⟩) (by show s < _; omega)).trans HKS.out
      obtain ⟨ai, hai⟩ : ∃ ai, at0 + i = ai := ⟨_, rfl⟩
      have w1 : IntKind.i64.wrap ((at0 : Int) + (i : Int)) = (ai : Int) := by rw [IntKind.wrap_i64]; omega
      have hrd := Read_c ai wr.drew ((HD1.out.below hB).below (Below.refl _ _).drew) (by omega)
      obtain ⟨A1, c1, e1, hc1, _⟩ := ho.reads
      subst e1
      have HRD := Lib.hid hrd
      have hsuc : secsN sb dm at0 (i + 1) = secsN sb dm at0 i ++ readN sb dm ai := by rw [secsN_succ, hai]
      obtain ⟨ys, hys⟩ : ∃ ys, secsN sb dm at0 i = ys := ⟨_, rfl⟩
      rw [hys] at hlen hsuc hc1 ⊢
      have HO' : Hid (OwnN .u8 5 wr W1.heap.size (.slice A1 ys.length c1) ys) := Lib.hid (by rw [← hys]; exact HO.out)
      have HS := Lib.hid hsuc
      obtain ⟨yl, hyl⟩ : ∃ yl, ys.length = yl := ⟨_, rfl⟩
      rw [hyl] at hlen hc1
      have HYL := Lib.hid hyl
      have HLEN := Lib.hid hlen
      clear hlen
      clear ho hB hrd hsuc hys HO
      go_wp2_with fail
      refine wp_region_late [3, 5] (fun w' => w'.cell? ⟨s, 0, none⟩ = some (.pointer (some ⟨db, 0, none⟩)) ∧ w'.cell? ⟨gr, 0, none⟩ = some (.int .i64 (at0 : Nat))) (by kernel_rfl) ⟨ks, k0⟩ (fun hT => ?_)
      refine WL.take (i := 0) (v := ?_) rfl (by kernel_rfl) (by kernel_rfl) (by kernel_rfl) (by kernel_rfl) (fun _ _ _ h => h) (Or.inl ⟨by rfl, ?_⟩) (by assumption) ?_
      rotate_left 1
      · (intro w' hSw; (try (replace hSw := hSw (by decide); dsimp only at hSw)); go_split_ands; go_simp; try with_reducible rfl)
      simp only [Act.put, List.getElem_toArray, List.getElem_cons_zero, List.getElem_cons_succ, List.setIfInBounds_toArray, List.set_cons_zero, List.set_cons_succ]
      refine WL.take (i := 1) (v := ?_) rfl (by kernel_rfl) (by kernel_rfl) (by kernel_rfl) (by kernel_rfl) (fun _ _ _ h => h) (Or.inl ⟨by rfl, ?_⟩) (by assumption) ?_
      rotate_left 1
      · (intro w' hSw; (try (replace hSw := hSw (by decide); dsimp only at hSw)); go_split_ands; go_simp; try with_reducible rfl)
      simp only [Act.put, List.getElem_toArray, List.getElem_cons_zero, List.getElem_cons_succ, List.setIfInBounds_toArray, List.set_cons_zero, List.set_cons_succ]
      refine WL.take (i := 2) (v := ?_) rfl (by kernel_rfl) (by kernel_rfl) (by kernel_rfl) (by kernel_rfl) (fun _ _ _ h => h) (Or.inl ⟨by rfl, ?_⟩) (by assumption) ?_
      rotate_left 1
      · (intro w' hSw; (try (replace hSw := hSw (by decide); dsimp only at hSw)); go_split_ands; go_simp; try with_reducible rfl)
      simp only [Act.put, List.getElem_toArray, List.getElem_cons_zero, List.getElem_cons_succ, List.setIfInBounds_toArray, List.set_cons_zero, List.set_cons_succ]
      refine WL.take (i := 3) (v := ?_) rfl (by kernel_rfl) (by kernel_rfl) (by kernel_rfl) (by kernel_rfl) (fun _ _ _ h => h) (Or.inl ⟨by rfl, ?_⟩) (by assumption) ?_
      rotate_left 1
      · (intro w' hSw; (try (replace hSw := hSw (by decide); dsimp only at hSw)); go_split_ands; go_simp; try with_reducible rfl)
      simp only [Act.put, List.getElem_toArray, List.getElem_cons_zero, List.getElem_cons_succ, List.setIfInBounds_toArray, List.set_cons_zero, List.set_cons_succ]
      refine WL.take (i := 4) (v := ?_) rfl (by kernel_rfl) (by kernel_rfl) (by kernel_rfl) (by kernel_rfl) (fun _ _ _ h => h) (Or.inl ⟨by rfl, ?_⟩) (by assumption) ?_
      rotate_left 1
      · (intro w' hSw; (try (replace hSw := hSw (by decide); dsimp only at hSw)); go_split_ands; go_simp; try with_reducible rfl)
      simp only [Act.put, List.getElem_toArray, List.getElem_cons_zero, List.getElem_cons_succ, List.setIfInBounds_toArray, List.set_cons_zero, List.set_cons_succ]
      refine WL.take (i := 5) (v := ?_) rfl (by kernel_rfl) (by kernel_rfl) (by kernel_rfl) (by kernel_rfl) (fun _ _ _ h => h) (Or.inl ⟨by rfl, ?_⟩) (by assumption) ?_
      rotate_left 1
      · (intro w' hSw; (try (replace hSw := hSw (by decide); dsimp only at hSw)); go_split_ands; go_simp; try with_reducible rfl)
      simp only [Act.put, List.getElem_toArray, List.getElem_cons_zero, List.getElem_cons_succ, List.setIfInBounds_toArray, List.set_cons_zero, List.set_cons_succ]
      refine WL.take (i := 6) (v := ?_) rfl (by kernel_rfl) (by kernel_rfl) (by kernel_rfl) (by kernel_rfl) (fun _ _ _ h => h) (Or.inl ⟨by rfl, ?_⟩) (by assumption) ?_
      rotate_left 1
      · (intro w' hSw; (try (replace hSw := hSw (by decide); dsimp only at hSw)); go_split_ands; go_simp; try with_reducible rfl)
      simp only [Act.put, List.getElem_toArray, List.getElem_cons_zero, List.getElem_cons_succ, List.setIfInBounds_toArray, List.set_cons_zero, List.set_cons_succ]
      refine WL.take (i := 7) (v := ?_) rfl (by kernel_rfl) (by kernel_rfl) (by kernel_rfl) (by kernel_rfl) (fun _ _ _ h => h) (Or.inl ⟨by rfl, ?_⟩) (by assumption) ?_
      rotate_left 1
      · (intro w' hSw; (try (replace hSw := hSw (by decide); dsimp only at hSw)); go_split_ands; go_simp; try with_reducible rfl)
      simp only [Act.put, List.getElem_toArray, List.getElem_cons_zero, List.getElem_cons_succ, List.setIfInBounds_toArray, List.set_cons_zero, List.set_cons_succ]
      refine WL.late (i := 8) (by kernel_rfl) rfl (by kernel_rfl) (fun K hK => ?_)
      go_simp
      go_at_call 126
      refine HRD.out.mono ?_
      rintro e w5 ⟨v5, rfl, ho5, hl5, hx5, hb5⟩
      obtain ⟨A5, c5, e5, hc5, hr5⟩ := ho5.reads
      subst e5
      have hT5 : w5.cell? ⟨s, 0, none⟩ = some (.pointer (some ⟨db, 0, none⟩)) ∧ w5.cell? ⟨gr, 0, none⟩ = some (.int .i64 (at0 : Nat)) := ⟨(hb5.cell (p := ⟨s, 0, none⟩) (by show s < _; simp; omega)).trans ks, (hb5.cell (p := ⟨gr, 0, none⟩) (by have := HGS.out; show gr < _; simp; omega)).trans k0⟩
      have HR5 := Lib.hid hr5
      have HB5 := Lib.hid hb5
      have HO5' := Lib.hid (pw_own_below (pw_own_below HO'.out (Below.refl _ wr).drew) hb5)
      have hs5 : wr.heap.size ≤ w5.heap.size := hb5.size
      rw [hl5] at hc5 ⊢
      have HL5 := Lib.hid hl5
      clear ho5 hr5 hb5 hx5 hl5 HRD
      go_simp
      refine hK.out _ _ ?_
      clear hK K
      refine WL.take (i := 9) (v := ?_) rfl (by kernel_rfl) (by kernel_rfl) (by kernel_rfl) (by kernel_rfl) (fun _ _ _ h => h) (Or.inl ⟨by rfl, ?_⟩) (by assumption) ?_
      rotate_left 1
      · (intro w' hSw; (try (replace hSw := hSw (by decide); dsimp only at hSw)); go_split_ands; go_simp; try with_reducible rfl)
      simp only [Act.put, List.getElem_toArray, List.getElem_cons_zero, List.getElem_cons_succ, List.setIfInBounds_toArray, List.set_cons_zero, List.set_cons_succ]
      refine WL.take (i := 10) (v := ?_) rfl (by kernel_rfl) (by kernel_rfl) (by kernel_rfl) (by kernel_rfl) (fun _ _ _ h => h) (Or.inl ⟨by rfl, ?_⟩) (by assumption) ?_
      rotate_left 1
      · (intro w' hSw; (try (replace hSw := hSw (by decide); dsimp only at hSw)); go_split_ands; go_simp; try with_reducible rfl)
      simp only [Act.put, List.getElem_toArray, List.getElem_cons_zero, List.getElem_cons_succ, List.setIfInBounds_toArray, List.set_cons_zero, List.set_cons_succ]
      refine WL.take (i := 11) (v := ?_) rfl (by kernel_rfl) (by kernel_rfl) (by kernel_rfl) (by kernel_rfl) (fun _ _ _ h => h) (Or.inl ⟨by rfl, ?_⟩) (by assumption) ?_
      rotate_left 1
      · (intro w' hSw; (try (replace hSw := hSw (by decide); dsimp only at hSw)); go_split_ands; go_simp; try with_reducible rfl)
      simp only [Act.put, List.getElem_toArray, List.getElem_cons_zero, List.getElem_cons_succ, List.setIfInBounds_toArray, List.set_cons_zero, List.set_cons_succ]
      refine WL.take (i := 12) (v := ?_) rfl (by kernel_rfl) (by kernel_rfl) (by kernel_rfl) (by kernel_rfl) (fun _ _ _ h => h) (Or.inl ⟨by rfl, ?_⟩) (by assumption) ?_
      rotate_left 1
      · (intro w' hSw; (try (replace hSw := hSw (by decide); dsimp only at hSw)); go_split_ands; go_simp; try with_reducible rfl)
      simp only [Act.put, List.getElem_toArray, List.getElem_cons_zero, List.getElem_cons_succ, List.setIfInBounds_toArray, List.set_cons_zero, List.set_cons_succ]
      refine WL.take (i := 13) (v := ?_) rfl (by kernel_rfl) (by kernel_rfl) (by kernel_rfl) (by kernel_rfl) (fun _ _ _ h => h) (Or.inl ⟨by rfl, ?_⟩) (by assumption) ?_
      rotate_left 1
      · (intro w' hSw; (try (replace hSw := hSw (by decide); dsimp only at hSw)); go_split_ands; go_simp; try with_reducible rfl)
      simp only [Act.put, List.getElem_toArray, List.getElem_cons_zero, List.getElem_cons_succ, List.setIfInBounds_toArray, List.set_cons_zero, List.set_cons_succ]
      refine WL.done (by kernel_rfl) ?_ _
      go_wp2_with (at_builtin; refine append_NN W1.heap.size rfl (.tmp 30) (.tmp 31) 25 5 .u8 1 rfl Tryz.underlying25 info_u8 (by decide) (.slice A1 yl c1) ys (readN sb dm ai) A5 c5 rfl (by rw [HL5.out]; rfl) (by rw [← HYL.out]; exact HO5'.out) HR5.out (by omega) (by rw [HYL.out, HL5.out]; have := HLEN.out; omega) ?_; intro v7 w7 ho7 hg7 hat7)
      have hb7 : Below W1.heap.size w5 w7 := below_grown HO5'.out (by omega) (by rw [HYL.out]; exact hg7)
      refine ⟨⟨i + 1, by omega, by go_num, by rw [HS.out]; exact ho7, by rw [HS.out, List.length_append, HYL.out, HL5.out]; have := HLEN.out; omega, ?_⟩, by simp [RowKit.intOf]; omega⟩
      exact (HB.out.trans ((Below.refl _ wr).drew.mono hszr)).trans ((HB5.out.mono hszr).trans hb7)
    · have d1 : decide ((i : Int) < (N : Int)) = false := decide_eq_false (by omega)
      obtain rfl : i = N := by omega
      clear ho hB
      go_wp2_with fail
      go_ret2
      exact ⟨_, rfl, ownsRow_base_a HO.out hsz1, HB1.out.trans (HB.out.mono hsz1)⟩
end Go.Proofs.YtbcamfbbooggfaaGreat.F
end
