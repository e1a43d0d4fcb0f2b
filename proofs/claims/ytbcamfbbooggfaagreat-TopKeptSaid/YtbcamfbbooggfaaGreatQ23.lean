/- Part 23 of the proof: W5, W6. -/
import Derived.Test.YtbcamfbbooggfaaGreatQ22

section
/- A disk is flushed. -/
set_option linter.unusedVariables false
set_option linter.unusedSimpArgs false
namespace Go.Proofs.YtbcamfbbooggfaaGreat.F
open Go.RowKit Go.Proofs.YtbcamfbbooggfaaGreatW.PrintWords Go.Maps
attribute [local go_sem ↓] Go.wp_at_zero Go.wp_at_succ

theorem RV.ds {t : TypeId} {W W' : World} {A : Option Addr} {m : Nat} {flat : List Value} {b gs mb n : Nat} {sb : List (List Nat)} {dm : List (Nat × Sec × List Nat)} {trip : Int} {down : Bool} {life : Nat} (h : RV t W A m flat) (hd : DK W b gs mb n sb dm trip down life) (hg : Gr (DS b gs mb) W W') (h1 : t ≠ 85) (h2 : t ≠ 25) : RV t W' A m flat := by
  obtain ⟨⟨cs, sv, row, q1, _, _, q4, _⟩, _, ⟨D, ⟨es, clock, q7, _⟩, _⟩, _⟩ := hd
  refine h.move (fun g cs x hh => hg.block g (Array.getElem?_eq_some_iff.1 hh).1 ?_)
  rintro (e | e | e)
  · rw [e, q1] at hh; injection hh with hh; injection hh with _ hh _; exact h1 hh.symm
  · rw [e, q4] at hh; injection hh with hh; injection hh with _ hh _; exact h2 hh.symm
  · rw [e, q7] at hh; cases hh
/-- The keys of what is dirty. -/
theorem DirtyK_c {b gs mb n : Nat} {sb : List (List Nat)} {dm : List (Nat × Sec × List Nat)} {trip : Int} {down : Bool} {life : Nat} (w : World) (h : DK w b gs mb n sb dm trip down life) :
    Calls Tryz.prog 80 #[.func (.func 123) #[] #[.pointer (some ⟨w.heap.size, 0, none⟩)]] (w.alloc (.cells #[.map (some mb)] 83)) fun e w' => ∃ (A : Option Addr) (ks : List Nat) (c : Nat), e = .returned (.slice A ks.length c) ∧ (∀ k, k ∈ ks ↔ (lk dm k).isSome = true) ∧ ks.Nodup ∧
      RV 3 w' A ks.length (ks.map (encN .i64)) ∧ Below w.heap.size w w' := by
  obtain ⟨D, hown, hD⟩ := h.map
  have hsm := h.small
  have hsz := hD.small (fun x hx => (h.secs x hx).1)
  have hb1 : Below w.heap.size w (w.alloc (.cells #[.map (some mb)] 83)) := (Below.refl _ _).alloc (Nat.le_refl _) _
  have hown1 : (w.alloc (.cells #[.map (some mb)] 83)).ownsMap Tryz.prog 3 rdSec mb (Maps.size D) D := hown.alloc _
  refine (SortedK_c w.heap.size mb _ D _ hown1 (by simp) ?_ (by omega)).mono ?_
  · rw [cell_of_row _ _ _ _ _ _ (heap_alloc_new _ _)]; rfl
  · rintro e w' ⟨v, ss, rfl, hp, ho, _, hb⟩
    obtain ⟨ks, hks, hl, hn, hm⟩ := hD.keys hown hp
    rw [hks] at ho
    have ho2 : w'.ownsRow (w.alloc (.cells #[.map (some mb)] 83)).heap.size 3 1 v ss.length (ks.map (encN .i64)) := by
      rw [List.map_map] at ho
      exact ho
    obtain ⟨A, c, e, _, hr, _⟩ := RV.ofOwn ho2
    rw [← hl] at e hr
    subst e
    exact ⟨A, ks, c, rfl, hm, hn, hr, hb1.trans (hb.mono (by simp))⟩
theorem wf_sec (W : World) (mb : Nat) (k : Nat) (s : Sec) (b n : Nat) (D : DataW Unit) (hown : W.ownsMap Tryz.prog 3 rdSec mb n D) (hk : k ≤ 1000000) (hat : ∀ z, D.atKey (.int .i64 (k : Nat)) z = secD s) :
    (Instr.lookup 83 (.map (some mb)) (.int .i64 (k : Nat)) false).run Tryz.prog W = .ok (.slice (some ⟨s.1, 0, none⟩) 128 s.2) W := by
  obtain ⟨v, ps, hrun, hv⟩ := hown.lookup lawK Tryz.underlying83 (zeroSl _) rdSec_nil (keyOfI k hk)
  rw [hat] at hv
  obtain rfl := rdSec_inv hv
  exact hrun
set_option maxRecDepth 20000 in
set_option maxHeartbeats 4000000 in
theorem settle_c {b gs mb n : Nat} {sb : List (List Nat)} {dm : List (Nat × Sec × List Nat)} {trip : Int} {down : Bool} {life : Nat} (w : World) (h : DK w b gs mb n sb dm trip down life) :
    Calls Tryz.prog 42 #[.pointer (some ⟨b, 0, none⟩)] w fun e w' => (∃ v, e = .returned v) ∧ (∃ sb', DK w' b gs mb n sb' [] trip down life ∧ ∀ i, i < n → sb'.getD i [] = readN sb dm i) ∧ Gr (DS b gs mb) w w' := by
  obtain ⟨cs, k0, k1, _, _, _, _, _, _, hcs⟩ := h.cells
  have hsm := h.small
  have hlen := h.len
  have HK := Lib.hid (Keys_c (some mb) w)
  have HS := Lib.hid (DirtyK_c w h)
  have HD := Lib.hid h
  clear h
  go_enter Tryz.func42, Tryz.ntmps42
  go_wp2_with fail
  refine HK.out.mono ?_
  rintro e w1 ⟨rfl, rfl⟩
  go_wp2_with fail
  refine HS.out.mono ?_
  rintro e w2 ⟨A, ks, c, rfl, hmem, hnd, hr, hb⟩
  have HM := Lib.hid hmem
  have HN := Lib.hid hnd
  have HR := Lib.hid hr
  have HB := Lib.hid hb
  have HD2 := Lib.hid (HD.out.below hb)
  have hkl : ks.length ≤ n := by
    have : ks.length ≤ (List.range n).length := List.Nodup.length_le_of_subset hnd (fun k hk => by
      have := (hmem k).1 hk
      obtain ⟨s, hs⟩ := Option.isSome_iff_exists.1 this
      exact List.mem_range.2 (HD.out.secs _ (lk_mem hs)).1)
    simpa using this
  clear hmem hnd hr hb HK HS
  go_wp2_with fail
  go_loopw [11] (fun vj W => ∃ (j : Nat) (sb' : List (List Nat)) (dm' : List (Nat × Sec × List Nat)), j ≤ ks.length ∧ vj = .int .i64 (j : Nat) ∧ DK W b gs mb n sb' dm' trip down life ∧ (∀ i, i < n → readN sb' dm' i = readN sb dm i) ∧ (∀ k, (lk dm' k).isSome = true ↔ k ∈ ks.drop j) ∧
    RV 3 W A ks.length (ks.map (encN .i64)) ∧ Gr (DS b gs mb) w W) (fun vj _ => ks.length - (RowKit.intOf vj).toNat)
  case atStart => exact ⟨0, sb, dm, by omega, rfl, HD2.out, fun i hi => rfl, fun k => by rw [List.drop_zero]; exact (HM.out k).symm, HR.out, Gr.of_below _ HB.out⟩
  case round =>
    obtain ⟨j, sb', dm', hj, rfl, hd, hrd, hlk, hrv, hgr⟩ := hrel
    by_cases hlt : j < ks.length
    · have d1 : decide ((j : Int) < (ks.length : Int)) = true := decide_eq_true (by omega)
      obtain ⟨k, hk⟩ : ∃ k, ks[j] = k := ⟨_, rfl⟩
      have hkm : k ∈ ks.drop j := by rw [← hk, List.drop_eq_getElem_cons hlt]; exact List.mem_cons_self
      have hsome := (hlk k).2 hkm
      obtain ⟨s, hs⟩ := Option.isSome_iff_exists.1 hsome
      have hkn := (hd.secs _ (lk_mem hs)).1
      have hkn : k < n := hkn
      obtain ⟨g, o, eA, kk⟩ := RV.intAt hrv j hlt
      rw [hk] at kk
      subst eA
      obtain ⟨D, hown, hD⟩ := hd.map
      have hat := (hD.2.2.2 k).2 s hs
      have hlook := fun W (h : W.ownsMap Tryz.prog 3 rdSec mb (Maps.size D) D) => wf_sec W mb k s.1 b _ D h (by omega) hat
      obtain ⟨cs', q0, q1, _, _, _, _, _, _, hcs'⟩ := hd.cells
      obtain ⟨s0, q2, q3, hs0⟩ := hd.sure k hkn
      have i0 : (0 : Int) ≤ (j : Int) := by omega
      have i1 : (j : Int) < (ks.length : Int) := by omega
      have i2 : (0 : Int) ≤ (k : Int) := by omega
      have i3 : (k : Int) < (n : Int) := by omega
      have hl2 := hlook wr hown
      have HDK := Lib.hid hd
      have HRD := Lib.hid hrd
      have HLK := Lib.hid hlk
      have HRV := Lib.hid hrv
      have HGR := Lib.hid hgr
      have HOWN := Lib.hid hown
      have HLOOK := Lib.hid hlook
      clear hs0 hd hrd hlk hrv hgr hown hlook hD hat
      go_wp2_with fail
      refine wp_region_late [3, 8, 10] (fun w' => w'.cell? ⟨b, 0, none⟩ = some (.slice (some ⟨gs, 0, none⟩) n cs') ∧ w'.cell? ⟨b, 1, none⟩ = some (.map (some mb)) ∧ (Instr.lookup 83 (.map (some mb)) (.int .i64 (k : Nat)) false).run Tryz.prog w' = .ok (.slice (some ⟨s.1.1, 0, none⟩) 128 s.1.2) w') (by kernel_rfl) ⟨q0, q1, HLOOK.out _ (HOWN.out.kept (row := none) ⟨rfl, rfl, rfl, Nat.le_refl _, fun _ _ _ => rfl⟩ (by simp))⟩ (fun hT => ?_)
      refine WL.take (i := 0) (v := ?_) rfl (by kernel_rfl) (by kernel_rfl) (by kernel_rfl) (by kernel_rfl) (fun _ _ _ h => h) (Or.inl ⟨by rfl, ?_⟩) (by assumption) ?_
      rotate_left 1
      · (intro w' hSw; (try (replace hSw := hSw (by decide); dsimp only at hSw)); go_split_ands; go_simp; try with_reducible rfl)
      simp only [Act.put, List.getElem_toArray, List.getElem_cons_zero, List.getElem_cons_succ, List.setIfInBounds_toArray, List.set_cons_zero, List.set_cons_succ]
      refine WL.take (i := 1) (v := ?_) rfl (by kernel_rfl) (by kernel_rfl) (by kernel_rfl) (by kernel_rfl) (fun _ _ _ h => h) (Or.inl ⟨by rfl, ?_⟩) (by assumption) ?_
      rotate_left 1
      · (intro w' hSw; (try (replace hSw := hSw (by decide); dsimp only at hSw)); go_split_ands; go_simp; try with_reducible rfl)
      simp only [Act.put, List.getElem_toArray, List.getElem_cons_zero, List.getElem_cons_succ, List.setIfInBounds_toArray, List.set_cons_zero, List.set_cons_succ]
      refine WL.take (i := 2) (v := ?_) rfl (by kernel_rfl) (by kernel_rfl) (by kernel_rfl) (by kernel_rfl) (fun _ _ _ h => h) (Or.inl ⟨by rfl, ?_⟩) (by assumption) ?_
      rotate_left 1
      · (intro w' hSw; (try (replace hSw := hSw (by decide); dsimp only at hSw)); go_split_ands; go_simp; try with_reducible rfl)
      simp only [Act.put, List.getElem_toArray, List.getElem_cons_zero, List.getElem_cons_succ, List.setIfInBounds_toArray, List.set_cons_zero, List.set_cons_succ]
      refine WL.take (i := 3) (v := ?_) rfl (by kernel_rfl) (by kernel_rfl) (by kernel_rfl) (by kernel_rfl) (fun _ _ _ h => h) (Or.inl ⟨by rfl, ?_⟩) (by assumption) ?_
      rotate_left 1
      · (intro w' hSw; (try (replace hSw := hSw (by decide); dsimp only at hSw)); go_split_ands; go_simp; try with_reducible rfl)
      simp only [Act.put, List.getElem_toArray, List.getElem_cons_zero, List.getElem_cons_succ, List.setIfInBounds_toArray, List.set_cons_zero, List.set_cons_succ]
      refine WL.take (i := 4) (v := ?_) rfl (by kernel_rfl) (by kernel_rfl) (by kernel_rfl) (by kernel_rfl) (fun _ _ _ h => h) (Or.inl ⟨by rfl, ?_⟩) (by assumption) ?_
      rotate_left 1
      · (intro w' hSw; (try (replace hSw := hSw (by decide); dsimp only at hSw)); go_split_ands; go_simp; try with_reducible rfl)
      simp only [Act.put, List.getElem_toArray, List.getElem_cons_zero, List.getElem_cons_succ, List.setIfInBounds_toArray, List.set_cons_zero, List.set_cons_succ]
      refine WL.take (i := 5) (v := ?_) rfl (by kernel_rfl) (by kernel_rfl) (by kernel_rfl) (by kernel_rfl) (fun _ _ _ h => h) (Or.inl ⟨by rfl, ?_⟩) (by assumption) ?_
      rotate_left 1
      · (intro w' hSw; (try (replace hSw := hSw (by decide); dsimp only at hSw)); go_split_ands; go_simp; try with_reducible rfl)
      simp only [Act.put, List.getElem_toArray, List.getElem_cons_zero, List.getElem_cons_succ, List.setIfInBounds_toArray, List.set_cons_zero, List.set_cons_succ]
      refine WL.take (i := 6) (v := ?_) rfl (by kernel_rfl) (by kernel_rfl) (by kernel_rfl) (by kernel_rfl) (fun _ _ _ h => h) (Or.inl ⟨by rfl, ?_⟩) (by assumption) ?_
      rotate_left 1
      · (intro w' hSw; (try (replace hSw := hSw (by decide); dsimp only at hSw)); go_split_ands; go_simp; try with_reducible rfl)
      simp only [Act.put, List.getElem_toArray, List.getElem_cons_zero, List.getElem_cons_succ, List.setIfInBounds_toArray, List.set_cons_zero, List.set_cons_succ]
      refine WL.take (i := 7) (v := ?_) rfl (by kernel_rfl) (by kernel_rfl) (by kernel_rfl) (by kernel_rfl) (fun _ _ _ h => h) (Or.inl ⟨by rfl, ?_⟩) (by assumption) ?_
      rotate_left 1
      · (intro w' hSw; (try (replace hSw := hSw (by decide); dsimp only at hSw)); go_split_ands; go_simp; try with_reducible rfl)
      simp only [Act.put, List.getElem_toArray, List.getElem_cons_zero, List.getElem_cons_succ, List.setIfInBounds_toArray, List.set_cons_zero, List.set_cons_succ]
      refine WL.take (i := 8) (v := ?_) rfl (by kernel_rfl) (by kernel_rfl) (by kernel_rfl) (by kernel_rfl) (fun _ _ _ h => h) (Or.inl ⟨by rfl, ?_⟩) (by assumption) ?_
      rotate_left 1
      · (intro w' hSw; (try (replace hSw := hSw (by decide); dsimp only at hSw)); go_split_ands; go_simp; try with_reducible rfl)
      simp only [Act.put, List.getElem_toArray, List.getElem_cons_zero, List.getElem_cons_succ, List.setIfInBounds_toArray, List.set_cons_zero, List.set_cons_succ]
      refine WL.take (i := 9) (v := ?_) rfl (by kernel_rfl) (by kernel_rfl) (by kernel_rfl) (by kernel_rfl) (fun _ _ _ h => h) (Or.inl ⟨by rfl, ?_⟩) (by assumption) ?_
      rotate_left 1
      · (intro w' hSw; (try (replace hSw := hSw (by decide); dsimp only at hSw)); go_split_ands; go_simp; try with_reducible rfl)
      simp only [Act.put, List.getElem_toArray, List.getElem_cons_zero, List.getElem_cons_succ, List.setIfInBounds_toArray, List.set_cons_zero, List.set_cons_succ]
      refine WL.take (i := 10) (v := ?_) rfl (by kernel_rfl) (by kernel_rfl) (by kernel_rfl) (by kernel_rfl) (fun _ _ _ h => h) (Or.inl ⟨by rfl, ?_⟩) (by assumption) ?_
      rotate_left 1
      · (intro w' hSw; (try (replace hSw := hSw (by decide); dsimp only at hSw)); go_split_ands; go_simp; try with_reducible rfl)
      simp only [Act.put, List.getElem_toArray, List.getElem_cons_zero, List.getElem_cons_succ, List.setIfInBounds_toArray, List.set_cons_zero, List.set_cons_succ]
      refine WL.take (i := 11) (v := ?_) rfl (by kernel_rfl) (by kernel_rfl) (by kernel_rfl) (by kernel_rfl) (fun _ _ _ h => h) (Or.inl ⟨by rfl, ?_⟩) (by assumption) ?_
      rotate_left 1
      · (intro w' hSw; (try (replace hSw := hSw (by decide); dsimp only at hSw)); go_split_ands; go_simp; try with_reducible rfl)
      simp only [Act.put, List.getElem_toArray, List.getElem_cons_zero, List.getElem_cons_succ, List.setIfInBounds_toArray, List.set_cons_zero, List.set_cons_succ]
      refine WL.late (i := 12) (by kernel_rfl) rfl (by kernel_rfl) (fun K hK => ?_)
      go_simp
      refine hK.out _ _ ?_
      clear hK K
      refine WL.done (by kernel_rfl) ?_ _
      have hgx : Gr (DS b gs mb) wr (wr.setCell ⟨gs, k, none⟩ (secV s.1)).drew := (Gr.setCell wr ⟨gs, k, none⟩ (secV s.1) (show DS b gs mb gs from .inr (.inl rfl))).trans (Gr.of_below (DS b gs mb) (Below.refl _ _).drew) (fun x _ hx => hx)
      have hd1 := (HDK.out.setRow k s hs).below (Below.refl _ _).drew
      have hgd := HGR.out.trans hgx (fun x _ hx => hx)
      have hrv1 := HRV.out.ds HDK.out hgx (by decide) (by decide)
      have hrd1 : ∀ i, i < n → readN (sb'.set k s.2) (without dm' k) i = readN sb dm i := fun i hi => (readN_set hs (by rw [HDK.out.len]; exact hkn) i).trans (HRD.out i hi)
      have hlk1 : ∀ x, (lk (without dm' k) x).isSome = true ↔ x ∈ ks.drop (j + 1) := fun x => by
        have hnd := HN.out
        have hdj : ks.drop j = k :: ks.drop (j + 1) := by rw [List.drop_eq_getElem_cons hlt, hk]
        have hnk : k ∉ ks.drop (j + 1) := by
          have : (ks.drop j).Nodup := hnd.sublist (List.drop_sublist _ _)
          rw [hdj, List.nodup_cons] at this
          exact this.1
        by_cases e : x = k
        · subst e
          rw [lk_without_same]
          simpa using hnk
        · rw [lk_without_other _ _ _ e, HLK.out x, hdj, List.mem_cons]
          simp [e]
      dsimp only [secV] at hd1 hgd hrv1
      clear hgx
      generalize (wr.setCell ⟨gs, k, none⟩ (.slice (some ⟨s.1.1, 0, none⟩) 128 s.1.2)).drew = w5 at hd1 hgd hrv1 ⊢
      obtain ⟨cs5, _, r1, _⟩ := hd1.cells
      obtain ⟨D5, hown5, hD5⟩ := hd1.map
      have hkey := keyOfI k (by omega)
      have HD5 := Lib.hid hd1
      have HDD := Lib.hid hD5
      have HO5 := Lib.hid hown5
      have HG5 := Lib.hid hgd
      have HR5 := Lib.hid hrv1
      have HRD1 := Lib.hid hrd1
      have HLK1 := Lib.hid hlk1
      clear hd1 hD5 hown5 hgd hrv1 hrd1 hlk1 hl2 HLOOK
      go_wp2_with (at_delete; refine wpList_delete_own _ rfl _ _ 83 3 rfl 25 lawK Tryz.underlying83 rdSec mb _ D5 rfl HO5.out _ _ rfl hkey ?_; intro w6 hown6 hturn6; have hg6 := hturn6.grown)
      have hsec : ∀ (s' : Sec) (bs' : List Nat), SecAt w5 s' bs' → SecAt w6 s' bs' := fun s' bs' hh => hh.move (fun g cs x hx => hg6.block g (Array.getElem?_eq_some_iff.1 hx).1 (fun e => by
        have e := Option.some.inj e
        subst e
        obtain ⟨es, c, q, _⟩ := HO5.out
        rw [q] at hx; cases hx))
      have hdk := HD5.out.putD hg6 hown6 (HDD.out.del k) (fun x hx => by
        have := HD5.out.secs x (List.mem_filter.1 hx).1
        exact ⟨this.1, hsec _ _ this.2⟩)
      have hgr6 : Gr (DS b gs mb) w5 w6 := ⟨hg6.os, hg6.tape, hg6.output, hg6.size, fun i hi hn => hg6.block i hi (fun e => hn (.inr (.inr (Option.some.inj e))))⟩
      exact ⟨⟨j + 1, _, _, by omega, by go_num, hdk, HRD1.out, HLK1.out, HR5.out.ds HD5.out hgr6 (by decide) (by decide), HG5.out.trans hgr6 (fun x _ hx => hx)⟩, by simp [RowKit.intOf]; omega⟩
    · have d1 : decide ((j : Int) < (ks.length : Int)) = false := decide_eq_false (by omega)
      have hdm := lk_nil (fun k hk => by have := (hlk k).1 hk; rw [List.drop_eq_nil_of_le (by omega)] at this; cases this)
      subst hdm
      have HDK := Lib.hid hd
      have HRD := Lib.hid hrd
      have HGR := Lib.hid hgr
      clear hd hrd hlk hrv hgr
      go_wp2_with fail
      go_end0
      exact ⟨⟨_, rfl⟩, ⟨sb', HDK.out, fun i hi => HRD.out i hi⟩, HGR.out⟩
end Go.Proofs.YtbcamfbbooggfaaGreat.F
end

section
/- A disk: Flush, Crash. -/
set_option linter.unusedVariables false
set_option linter.unusedSimpArgs false
namespace Go.Proofs.YtbcamfbbooggfaaGreat.F
open Go.RowKit Go.Proofs.YtbcamfbbooggfaaGreatW.PrintWords Go.Maps
attribute [local go_sem ↓] Go.wp_at_zero Go.wp_at_succ

set_option maxRecDepth 20000 in
set_option maxHeartbeats 4000000 in
theorem trips_s {b gs mb n : Nat} {sb : List (List Nat)} {dm : List (Nat × Sec × List Nat)} {life : Nat} (w : World) (h : DK w b gs mb n sb dm 0 false life) :
    Calls Tryz.prog 41 #[.pointer (some ⟨b, 0, none⟩), .func (.func 42) #[.pointer (some ⟨b, 0, none⟩)] #[]] w fun e w' => e = .returned (.int .i64 0) ∧ (∃ sb', DK w' b gs mb n sb' [] 0 false life ∧ ∀ i, i < n → sb'.getD i [] = readN sb dm i) ∧ Gr (DS b gs mb) w w' := by
  obtain ⟨cs, _, _, k2, _, _, f2, _⟩ := h.cells
  have hd1 := h.setCell (trip' := -1) (down' := false) (life' := life) 2 (.int .i64 (-1)) (fun cs => rfl)
  have hd2 := hd1.setCell (trip' := 0) (down' := false) (life' := life) 2 (.int .i64 0) (fun cs => rfl)
  have hgr : Gr (DS b gs mb) w ((w.setCell ⟨b, 2, none⟩ (.int .i64 (-1))).setCell ⟨b, 2, none⟩ (.int .i64 0)) := (Gr.ds w _).trans (Gr.ds _ _) (fun x _ hx => hx)
  have hlt := h.lt.1
  have hw := settle_c _ hd2
  have HW := Lib.hid hw
  have HGR := Lib.hid hgr
  clear hd1 hd2 hgr hw h
  go_enter Tryz.func41, Tryz.ntmps41
  go_wp2_with fail
  refine HW.out.mono ?_
  rintro e w3 ⟨⟨v3, rfl⟩, hd3, hg3⟩
  have HD3 := Lib.hid hd3
  have HG3 := Lib.hid (HGR.out.trans hg3 (fun x _ hx => hx))
  clear hd3 hg3
  go_wp2_with fail
  go_ret
  exact ⟨rfl, HD3.out, HG3.out⟩
set_option maxRecDepth 20000 in
set_option maxHeartbeats 4000000 in
theorem Flush_c {b gs mb n : Nat} {sb : List (List Nat)} {dm : List (Nat × Sec × List Nat)} {life : Nat} (w : World) (h : DK w b gs mb n sb dm 0 false life) (hn : 0 < n) :
    Calls Tryz.prog 16 #[.pointer (some ⟨b, 0, none⟩)] w fun e w' => e = .returned (.int .i64 0) ∧ (∃ sb', DK w' b gs mb n sb' [] 0 false life ∧ ∀ i, i < n → sb'.getD i [] = readN sb dm i) ∧ Gr (DS b gs mb) w w' := by
  have HP := Lib.hid (powered_c 0 w h hn)
  have HT := Lib.hid (trips_s w h)
  clear h
  go_enter Tryz.func16, Tryz.ntmps16
  go_wp2_with fail
  refine HP.out.mono ?_
  rintro e w2 ⟨rfl, hw2⟩
  subst hw2
  simp only [Bool.false_eq_true, if_false]
  go_wp2_with fail
  refine HT.out.mono ?_
  rintro e w3 ⟨rfl, hd3, hg3⟩
  have HD3 := Lib.hid hd3
  have HG3 := Lib.hid hg3
  clear hd3 hg3
  go_wp2_with fail
  go_ret
  exact ⟨rfl, HD3.out, HG3.out⟩
set_option maxRecDepth 20000 in
set_option maxHeartbeats 4000000 in
theorem Dirty0_c {b gs mb n : Nat} {sb : List (List Nat)} {trip : Int} {down : Bool} {life : Nat} (w : World) (h : DK w b gs mb n sb [] trip down life) :
    Calls Tryz.prog 43 #[.pointer (some ⟨b, 0, none⟩)] w fun e w' => ∃ A c, e = .returned (.slice A 0 c) ∧ Below w.heap.size w w' := by
  obtain ⟨cs, k0, k1, _⟩ := h.cells
  have HK := Lib.hid (Keys_c (some mb) w)
  have HS := Lib.hid (DirtyK_c w h)
  clear h
  go_enter Tryz.func43, Tryz.ntmps43
  go_wp2_with fail
  refine HK.out.mono ?_
  rintro e w1 ⟨rfl, rfl⟩
  go_wp2_with fail
  refine HS.out.mono ?_
  rintro e w2 ⟨A, ks, c, rfl, hmem, _, _, hb⟩
  obtain rfl : ks = [] := by
    cases ks with
    | nil => rfl
    | cons k ks => exact absurd ((hmem k).1 List.mem_cons_self) (by simp [lk])
  have HB := Lib.hid hb
  clear hmem hb
  go_wp2_with fail
  go_ret
  exact ⟨A, c, rfl, HB.out⟩
set_option maxRecDepth 20000 in
set_option maxHeartbeats 4000000 in
theorem Crash_c {b gs mb n : Nat} {sb : List (List Nat)} {trip : Int} {down : Bool} {life : Nat} (x0 : Option Addr) (xn xc : Nat) (x1 x2 : Int) (w : World) (h : DK w b gs mb n sb [] trip down life) (hl : life ≤ 1000) :
    Calls Tryz.prog 17 #[.pointer (some ⟨b, 0, none⟩), .agg #[.slice x0 xn xc, .int .i64 x1, .int .i64 x2]] w fun e w' => (∃ v, e = .returned v) ∧ DK w' b gs mb n sb [] 0 false (life + 1) ∧ Gr (DS b gs mb) w w' := by
  obtain ⟨W1, hW1⟩ : ∃ W1, w.alloc (.cells #[.slice x0 xn xc, .int .i64 x1, .int .i64 x2] 29) = W1 := ⟨_, rfl⟩
  have hb1 : Below w.heap.size w W1 := by rw [← hW1]; exact (Below.refl _ _).alloc (Nat.le_refl _) _
  have h1 := h.below hb1
  have HS := Lib.hid (Dirty0_c W1 h1)
  have HW1 := Lib.hid hW1
  have HB1 := Lib.hid hb1
  have HD := Lib.hid h1
  clear h1 hb1 hW1 h
  go_enter Tryz.func17, Tryz.ntmps17
  go_wp2_with (rw [HW1.out])
  refine HS.out.mono ?_
  rintro e w2 ⟨A, c, rfl, hb2⟩
  have hd2 := HD.out.below hb2
  obtain ⟨cs, k0, k1, k2, k3, k4, f2, f3, f4, _⟩ := hd2.cells
  have hd3 := hd2.setCell (trip' := 0) (down' := down) (life' := life) 2 (.int .i64 0) (fun cs => rfl)
  have hd4 := hd3.setCell (trip' := 0) (down' := false) (life' := life) 3 (.bool false) (fun cs => rfl)
  have hd5 := hd4.setCell (trip' := 0) (down' := false) (life' := life + 1) 4 (.int .i64 ((life + 1 : Nat) : Int)) (fun cs => rfl)
  have hgr : Gr (DS b gs mb) w2 (((w2.setCell ⟨b, 2, none⟩ (.int .i64 0)).setCell ⟨b, 3, none⟩ (.bool false)).setCell ⟨b, 4, none⟩ (.int .i64 ((life + 1 : Nat) : Int))) := ((Gr.ds w2 _).trans (Gr.ds _ _) (fun x _ hx => hx)).trans (Gr.ds _ _) (fun x _ hx => hx)
  have HD5 := Lib.hid hd5
  have HGR := Lib.hid (((Gr.of_below (DS b gs mb) HB1.out).trans (Gr.of_below (DS b gs mb) hb2) (fun x _ hx => hx)).trans hgr (fun x _ hx => hx))
  have hlf : IntKind.i64.wrap ((life : Int) + 1) = ((life + 1 : Nat) : Int) := by rw [IntKind.wrap_i64]; omega
  clear hd2 hd3 hd4 hd5 hgr hb2 HD HS
  go_wp2_with fail
  go_loopw [12] (fun vj W => vj = .int .i64 0 ∧ W = w2) (fun vj _ => 0)
  case atStart => exact ⟨rfl, rfl⟩
  case round =>
    obtain ⟨rfl, rfl⟩ := hrel
    go_wp2_with fail
    go_end0
    exact ⟨⟨_, rfl⟩, HD5.out, HGR.out⟩
end Go.Proofs.YtbcamfbbooggfaaGreat.F
end
