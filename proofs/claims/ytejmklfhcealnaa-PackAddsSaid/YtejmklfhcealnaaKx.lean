/- How much room, by the document; the sums; a chunk. -/
import Derived.Test.YtejmklfhcealnaaKt
import Derived.Test.YtejmklfhcealnaaRq
import Derived.Test.YtejmklfhcealnaaKr
set_option linter.unusedVariables false
set_option linter.unusedSimpArgs false
namespace Go.Proofs.Ytejmklfhcealnaa.F
open Go.RowKit Go.Proofs.YtejmklfhcealnaaW.PrintWords
attribute [local go_sem ↓] Go.wp_at_zero Go.wp_at_succ

/-- A chunk of i bytes. -/
def exN (i : Nat) : List Nat := List.replicate i 120
theorem exN_len (i : Nat) : (exN i).length = i := by simp [exN]
theorem exN_succ (i : Nat) : bstr (exN (i + 1)) = bstr (exN i) ++ ⟨#[120]⟩ := by
  unfold exN
  rw [List.replicate_succ', bstr_append]
  rfl
theorem fit_iff (wide m : Nat) (L : List (List Nat)) (hm : 1 ≤ m) (hL : L.length < 64) (hw : 1 ≤ wide) (h512 : m ≤ 512) : (128 + (L ++ [exN m]).flatten.length + 34 * (L ++ [exN m]).length ≤ 128 * wide) ↔ m ≤ roomN wide L.length L.flatten.length := by
  have e1 : (L ++ [exN m]).flatten.length = L.flatten.length + m := by simp [exN_len]
  have e2 : (L ++ [exN m]).length = L.length + 1 := by simp
  rw [e1, e2]
  unfold roomN
  rw [if_neg (by omega)]
  omega
theorem strs_snoc (L : List (List Nat)) (p : List Nat) : strs (L ++ [p]) = strs L ++ [.string (bstr p)] := by simp [strs]
set_option maxRecDepth 20000 in
set_option maxHeartbeats 4000000 in
theorem Room_r (b id wide : Nat) (L : List (List Nat)) (w : World) (h : PY w b id wide L) (hw1 : 1 ≤ wide) (hw2 : wide ≤ 64) (hL : L.length ≤ 64) (hF : L.flatten.length ≤ 32768) :
    Calls Try.prog 20 #[.pointer (some ⟨b, 0, none⟩)] w fun e w' => e = .returned (.int .i64 (roomN wide L.length L.flatten.length : Nat)) ∧ Below w.heap.size w w' := by
  obtain ⟨AL, cL, h1, h2, h4⟩ := h
  have hb : b < w.heap.size := (Array.getElem?_eq_some_iff.1 h1).1
  have k1 : w.cell? ⟨b, 1, none⟩ = some (.int .i64 (wide : Nat)) := by rw [cell_of_row _ _ _ _ _ _ h1]; rfl
  have k2 : w.cell? ⟨b, 2, none⟩ = some (.slice AL L.length cL) := by rw [cell_of_row _ _ _ _ _ _ h1]; rfl
  have HRL := Lib.hid h2
  have K1 := Lib.hid k1
  have K2 := Lib.hid k2
  clear h1 h2 h4
  by_cases h64 : L.length = 64
  · have d1 : decide ((64 : Int) ≤ (L.length : Int)) = true := decide_eq_true (by omega)
    have hr : roomN wide L.length L.flatten.length = 0 := by unfold roomN; rw [if_pos h64]
    have HRR := Lib.hid hr
    clear hr hF
    go_enter Try.func20, Try.ntmps20
    go_wp2_with fail
    go_ret
    rw [HRR.out]
    exact ⟨rfl, Below.refl _ _⟩
  have d1 : decide ((64 : Int) ≤ (L.length : Int)) = false := decide_eq_false (by omega)
  have d1' : decide (64 ≤ L.length) = false := decide_eq_false (by omega)
  have hfi := fun m h1 h2 => fit_iff wide m L h1 (by omega) hw1 h2
  have hr512 : roomN wide L.length L.flatten.length ≤ 512 := by unfold roomN; split <;> omega
  have hFm : ∀ m, m ≤ 512 → (L ++ [exN m]).flatten.length ≤ 100000 := fun m hm => by
    have e1 : (L ++ [exN m]).flatten.length = L.flatten.length + m := by rw [List.flatten_append, List.length_append]; simp [exN_len]
    rw [e1]; omega
  obtain ⟨R, hR⟩ : ∃ R, roomN wide L.length L.flatten.length = R := ⟨_, rfl⟩
  rw [hR] at hfi hr512 ⊢
  have HFI := Lib.hid hfi
  have HFM := Lib.hid hFm
  clear hfi hR hFm hF
  go_enter Try.func20, Try.ntmps20
  go_wp2_with fail
  clear k1 k2
  go_loopw [3, 4] (fun vn vs W => ∃ i : Nat, i ≤ 512 ∧ i ≤ R ∧ vn = .int .i64 i ∧ vs = .string (bstr (exN i)) ∧ Below w.heap.size w W) (fun vn _ _ => 512 - (intOf vn).toNat)
  case atStart => exact ⟨0, by omega, by omega, rfl, rfl, Below.refl _ _⟩
  case round =>
    obtain ⟨i, hi, hiR, rfl, rfl, hBw⟩ := hrel
    have hsw := hBw.size
    have HBW := Lib.hid hBw
    by_cases hlt : i < 512
    · have d2 : decide ((i : Int) < 512) = true := decide_eq_true (by omega)
      have hsx := exN_succ i
      have hs1 := bstr_size (exN i)
      have hl1 := exN_len i
      rw [hl1] at hs1
      obtain ⟨S, hS⟩ : ∃ S, bstr (exN i) = S := ⟨_, rfl⟩
      rw [hS] at hsx hs1 ⊢
      obtain ⟨S2, hS2⟩ : ∃ S2, S ++ (⟨#[120]⟩ : ByteArray) = S2 := ⟨_, rfl⟩
      rw [hS2] at hsx
      have hfit := HFI.out (i + 1) (by omega) (by omega)
      have hFF := HFM.out (i + 1) (by omega)
      have hLL : (L ++ [exN (i + 1)]).length ≤ 100 := by simp; omega
      have hll : (L ++ [exN (i + 1)]).length = L.length + 1 := by simp
      obtain ⟨x0', hx0⟩ : ∃ x, wr = x := ⟨_, rfl⟩
      have hbw : b < wr.heap.size := by omega
      have HTB : Hid (∀ w', Below wr.heap.size wr w' → w'.cell? ⟨b, 2, none⟩ = some (.slice AL L.length cL) ∧ w'.cell? ⟨b, 1, none⟩ = some (.int .i64 (wide : Nat))) := Lib.hid (fun w' h => ⟨((HBW.out.trans (h.mono hsw)).cell (p := ⟨b, 2, none⟩) hb).trans K2.out, ((HBW.out.trans (h.mono hsw)).cell (p := ⟨b, 1, none⟩) hb).trans K1.out⟩)
      have hRLr := HRL.out.below HBW.out
      have HRLR := Lib.hid hRLr
      have HSX := Lib.hid hsx
      have HFT := Lib.hid hfit
      have HFF := Lib.hid hFF
      have HLL := Lib.hid hLL
      have HL2 := Lib.hid hll
      clear hBw hx0 hsx hS hl1 hfit hFF hLL hll hRLr
      have hS3 := hS2
      have HS3 := Lib.hid hS3
      clear hS3
      go_upto_region 7 with fail
      refine wp_region_late [4, 12] (fun w' => w'.cell? ⟨b, 2, none⟩ = some (.slice AL L.length cL) ∧ w'.cell? ⟨b, 1, none⟩ = some (.int .i64 (wide : Nat))) (by kernel_rfl) (HTB.out _ ((Below.refl _ _).drew)) (fun hT => ?_)
      have HB' : Below wr.heap.size wr wr.drew := (Below.refl _ _).drew
      have HT' := HTB.out _ HB'
      generalize wr.drew = x0 at HB' HT' hT ⊢
      refine WL.take (i := 1) (v := ?_) rfl (by kernel_rfl) (by kernel_rfl) (by kernel_rfl) (by kernel_rfl) (fun _ _ _ h => h) (Or.inl ⟨by rfl, ?_⟩) (by assumption) ?_
      rotate_left 1
      · (intro w' hSw; (try (replace hSw := hSw (by decide); dsimp only at hSw)); go_split_ands; go_simp; try with_reducible rfl)
      simp only [Act.put, List.getElem_toArray, List.getElem_cons_zero, List.getElem_cons_succ, List.setIfInBounds_toArray, List.set_cons_zero, List.set_cons_succ]
      refine WL.take (i := 2) (v := ?_) rfl (by kernel_rfl) (by kernel_rfl) (by kernel_rfl) (by kernel_rfl) (fun _ _ _ h => h) (Or.inl ⟨by rfl, ?_⟩) (by assumption) ?_
      rotate_left 1
      · (intro w' hSw; (try (replace hSw := hSw (by decide); dsimp only at hSw)); go_split_ands; go_simp; try with_reducible rfl)
      simp only [Act.put, List.getElem_toArray, List.getElem_cons_zero, List.getElem_cons_succ, List.setIfInBounds_toArray, List.set_cons_zero, List.set_cons_succ]
      refine WL.take (i := 3) (v := ?_) rfl (by kernel_rfl) (by kernel_rfl) (by kernel_rfl) (by kernel_rfl) (fun _ _ _ h => h) (Or.inl ⟨by rfl, ?_⟩) (by assumption) ?_
      rotate_left 1
      · (intro w' hSw; (try (replace hSw := hSw (by decide); dsimp only at hSw)); go_split_ands; go_simp; try with_reducible rfl)
      simp only [Act.put, List.getElem_toArray, List.getElem_cons_zero, List.getElem_cons_succ, List.setIfInBounds_toArray, List.set_cons_zero, List.set_cons_succ]
      refine WL.take (i := 4) (v := ?_) rfl (by kernel_rfl) (by kernel_rfl) (by kernel_rfl) (by kernel_rfl) (fun _ _ _ h => h) (Or.inl ⟨by rfl, ?_⟩) (by assumption) ?_
      rotate_left 1
      · (intro w' hSw; (try (replace hSw := hSw (by decide); dsimp only at hSw)); go_split_ands; go_simp; try with_reducible rfl)
      simp only [Act.put, List.getElem_toArray, List.getElem_cons_zero, List.getElem_cons_succ, List.setIfInBounds_toArray, List.set_cons_zero, List.set_cons_succ]
      refine WL.take (i := 6) (v := ?_) rfl (by kernel_rfl) (by kernel_rfl) (by kernel_rfl) (by kernel_rfl) (fun _ _ _ h => h) (Or.inl ⟨by rfl, ?_⟩) (by assumption) ?_
      rotate_left 1
      · (intro w' hSw; (try (replace hSw := hSw (by decide); dsimp only at hSw)); go_split_ands; go_simp; try with_reducible rfl)
      simp only [Act.put, List.getElem_toArray, List.getElem_cons_zero, List.getElem_cons_succ, List.setIfInBounds_toArray, List.set_cons_zero, List.set_cons_succ]
      refine WL.take (i := 9) (v := ?_) rfl (by kernel_rfl) (by kernel_rfl) (by kernel_rfl) (by kernel_rfl) (fun _ _ _ h => h) (Or.inl ⟨by rfl, ?_⟩) (by assumption) ?_
      rotate_left 1
      · (intro w' hSw; (try (replace hSw := hSw (by decide); dsimp only at hSw)); go_split_ands; go_simp; try with_reducible rfl)
      simp only [Act.put, List.getElem_toArray, List.getElem_cons_zero, List.getElem_cons_succ, List.setIfInBounds_toArray, List.set_cons_zero, List.set_cons_succ]
      refine WL.take (i := 10) (v := ?_) rfl (by kernel_rfl) (by kernel_rfl) (by kernel_rfl) (by kernel_rfl) (fun _ _ _ h => h) (Or.inl ⟨by rfl, ?_⟩) (by assumption) ?_
      rotate_left 1
      · (intro w' hSw; (try (replace hSw := hSw (by decide); dsimp only at hSw)); go_split_ands; go_simp; try with_reducible rfl)
      simp only [Act.put, List.getElem_toArray, List.getElem_cons_zero, List.getElem_cons_succ, List.setIfInBounds_toArray, List.set_cons_zero, List.set_cons_succ]
      refine WL.take (i := 11) (v := ?_) rfl (by kernel_rfl) (by kernel_rfl) (by kernel_rfl) (by kernel_rfl) (fun _ _ _ h => h) (Or.inl ⟨by rfl, ?_⟩) (by assumption) ?_
      rotate_left 1
      · (intro w' hSw; (try (replace hSw := hSw (by decide); dsimp only at hSw)); go_split_ands; go_simp; try with_reducible rfl)
      simp only [Act.put, List.getElem_toArray, List.getElem_cons_zero, List.getElem_cons_succ, List.setIfInBounds_toArray, List.set_cons_zero, List.set_cons_succ]
      refine WL.take (i := 12) (v := ?_) rfl (by kernel_rfl) (by kernel_rfl) (by kernel_rfl) (by kernel_rfl) (fun _ _ _ h => h) (Or.inl ⟨by rfl, ?_⟩) (by assumption) ?_
      rotate_left 1
      · (intro w' hSw; (try (replace hSw := hSw (by decide); dsimp only at hSw)); go_split_ands; go_simp; try with_reducible rfl)
      simp only [Act.put, List.getElem_toArray, List.getElem_cons_zero, List.getElem_cons_succ, List.setIfInBounds_toArray, List.set_cons_zero, List.set_cons_succ]
      clear hT
      refine WL.two (i := 0) (j := 7) (by kernel_rfl) rfl rfl (fun K hK => ?_) (fun K hK => ?_)
      · go_simp
        have hE := own_weaken (emptyV 9 1 x0) HB'.size
        have hb' := HB'.alloc (HB'.size) (.cells #[] 9)
        have hlt' := heap_alloc_new x0 (.cells #[] 9)
        refine hK.out _ _ (fun _ => HTB.out _ hb') ?_
        clear hK K HB' HT'
        generalize x0.alloc (.cells #[] 9) = x1 at hb' hE hlt' ⊢
        generalize x0.heap.size = g0 at hE hlt' ⊢
        have HB' := hb'
        clear hb'
        have HT' := HTB.out _ HB'
        refine WL.two (i := 5) (j := 7) (by kernel_rfl) rfl rfl (fun K hK => ?_) (fun K hK => ?_)
        · rw [if_pos (by rfl)]
          refine wp_append_RV wr.heap.size (.tmp 15) (.tmp 19) 44 9 (.string ⟨#[]⟩) 1 16 (by rfl) Try.underlying44 info_str (by rfl) (by decide) _ 0 [] AL L.length cL (strs L) (by rfl) (by rfl) hE (HRLR.out.below HB') (by rw [strs_len]; omega) (strs_one L) HB'.size (by omega) (by omega) ?_
          intro v5 x2 hE' hgr
          have hb' := HB'.grown hgr HB'.size (fun j ej => own_base hE j ej)
          rw [Nat.zero_add, List.nil_append] at hE'
          obtain ⟨A5, c5, e5, hc5, _⟩ := RV.ofOwn hE'
          subst e5
          go_simp
          refine hK.out _ _ (fun _ => HTB.out _ hb') ?_
          clear hK K HB' HT' hE hgr hlt'
          have hE := hE'
          clear hE'
          have HB' := hb'
          clear hb'
          have HT' := HTB.out _ HB'
          refine WL.one (i := 7) (by kernel_rfl) rfl (fun K hK => ?_)
          go_simp
          have hb' := HB'.alloc (HB'.size) (.cells #[.string S2] 9)
          have hp := RV.one 9 x2 (.string S2)
          replace hE := pw_own_below hE ((Below.refl x2.heap.size x2).alloc (Nat.le_refl _) (.cells #[.string S2] 9))
          refine hK.out _ _ (fun _ => HTB.out _ hb') ?_
          clear hK K HB' HT'
          generalize x2.alloc (.cells #[.string S2] 9) = x3 at hb' hp hE ⊢
          generalize x2.heap.size = gp at hp ⊢
          have HB' := hb'
          clear hb'
          have HT' := HTB.out _ HB'
          refine WL.one (i := 8) (by kernel_rfl) rfl (fun K hK => ?_)
          rw [if_pos (by rfl)]
          refine wp_append_RV wr.heap.size (.tmp 20) (.tmp 22) 44 9 (.string ⟨#[]⟩) 1 16 (by rfl) Try.underlying44 info_str (by rfl) (by decide) _ L.length (strs L) (some ⟨gp, 0, none⟩) 1 1 [.string S2] (by rfl) (by rfl) hE hp (by simp) (by simp [Value.oneCell']) HB'.size (by omega) (by omega) ?_
          intro v9 y9 hE9 hg9
          have hb9 := HB'.grown hg9 HB'.size (fun j ej => own_base hE j ej)
          have hE9' : y9.ownsRow wr.heap.size 9 1 v9 (L ++ [exN (i + 1)]).length (strs (L ++ [exN (i + 1)])) := by rw [HL2.out, strs_snoc, HSX.out]; exact hE9
          obtain ⟨A9, c9, e9, hc9, hr9, _⟩ := RV.ofOwn hE9'
          rw [HL2.out] at e9
          subst e9
          have hfc := Fits_c A9 c9 wide (L ++ [exN (i + 1)]) y9 hr9 (by omega) HLL.out HFF.out
          rw [HL2.out] at hfc
          have hbb9 := HBW.out.trans (hb9.mono hsw)
          have hT9 := HTB.out y9 hb9
          clear HB' HT' hE hp hg9 hE9 hE9' hr9 hb9
          go_simp
          refine hK.out _ _ (fun _ => hT9) ?_
          clear hK K hT9
          refine WL.late (i := 13) (by kernel_rfl) rfl (by kernel_rfl) (fun K hK => ?_)
          go_simp
          go_at_call 36
          refine hfc.mono ?_
          rintro e y10 ⟨rfl, hwe⟩
          subst hwe
          clear hfc
          have hft := HFT.out
          rw [HL2.out] at hft
          obtain ⟨bo, hbo⟩ : ∃ bo, decide (128 + (L ++ [exN (i + 1)]).flatten.length + 34 * (L.length + 1) ≤ 128 * wide) = bo := ⟨_, rfl⟩
          rw [hbo]
          have hft2 : bo = true ↔ i + 1 ≤ R := by rw [← hbo, decide_eq_true_eq]; exact hft
          clear hbo hft
          cases bo with
          | true =>
            have hle : i + 1 ≤ R := hft2.1 rfl
            clear hft2
            go_simp
            refine hK.out _ _ ?_
            clear hK K
            refine WL.late (i := 14) (by kernel_rfl) rfl (by kernel_rfl) (fun K hK => ?_)
            go_simp
            refine hK.out _ _ ?_
            clear hK K
            refine WL.done (by kernel_rfl) ?_ _
            go_wp2_with fail
            exact ⟨⟨i + 1, by omega, hle, by go_num, by rw [HSX.out], hbb9⟩, by simp [intOf]; omega⟩
          | false =>
            have hle : ¬ (i + 1 ≤ R) := fun h => by have := hft2.2 h; cases this
            clear hft2
            obtain rfl : i = R := by omega
            go_simp
            refine hK.out _ _ ?_
            clear hK K
            refine WL.late (i := 14) (by kernel_rfl) rfl (by kernel_rfl) (fun K hK => ?_)
            go_simp
            refine hK.out _ _ ?_
            clear hK K
            refine WL.done (by kernel_rfl) ?_ _
            go_wp2_with fail
            go_ret
            exact ⟨rfl, hbb9⟩
        · go_simp
          have hb' := HB'.alloc (HB'.size) (.cells #[.string S2] 9)
          have hp := RV.one 9 x1 (.string S2)
          replace hE := pw_own_below hE ((Below.refl x1.heap.size x1).alloc (Nat.le_refl _) (.cells #[.string S2] 9))
          have hpne : x1.heap.size ≠ g0 := fun e => by have := (Array.getElem?_eq_some_iff.1 hlt').1; omega
          refine hK.out _ _ (fun _ => HTB.out _ hb') ?_
          clear hK K HB' HT'
          generalize x1.alloc (.cells #[.string S2] 9) = x4 at hb' hp hE ⊢
          generalize x1.heap.size = gp at hp hpne ⊢
          have HB' := hb'
          clear hb'
          have HT' := HTB.out _ HB'
          refine WL.one (i := 5) (by kernel_rfl) rfl (fun K hK => ?_)
          rw [if_pos (by rfl)]
          refine wp_append_RV wr.heap.size (.tmp 15) (.tmp 19) 44 9 (.string ⟨#[]⟩) 1 16 (by rfl) Try.underlying44 info_str (by rfl) (by decide) _ 0 [] AL L.length cL (strs L) (by rfl) (by rfl) hE (HRLR.out.below HB') (by rw [strs_len]; omega) (strs_one L) HB'.size (by omega) (by omega) ?_
          intro v5 x5 hE' hgr
          have hb' := HB'.grown hgr HB'.size (fun j ej => own_base hE j ej)
          replace hp := hp.grown hgr hE (fun _ g o e e' => by cases e; injection e' with e'; exact hpne e'.symm)
          rw [Nat.zero_add, List.nil_append] at hE'
          obtain ⟨A5, c5, e5, hc5, _⟩ := RV.ofOwn hE'
          subst e5
          go_simp
          refine hK.out _ _ (fun _ => HTB.out _ hb') ?_
          clear hK K HB' HT' hE hgr hpne
          have hE := hE'
          clear hE'
          have HB' := hb'
          clear hb'
          have HT' := HTB.out _ HB'
          refine WL.one (i := 8) (by kernel_rfl) rfl (fun K hK => ?_)
          rw [if_pos (by rfl)]
          refine wp_append_RV wr.heap.size (.tmp 20) (.tmp 22) 44 9 (.string ⟨#[]⟩) 1 16 (by rfl) Try.underlying44 info_str (by rfl) (by decide) _ L.length (strs L) (some ⟨gp, 0, none⟩) 1 1 [.string S2] (by rfl) (by rfl) hE hp (by simp) (by simp [Value.oneCell']) HB'.size (by omega) (by omega) ?_
          intro v9 y9 hE9 hg9
          have hb9 := HB'.grown hg9 HB'.size (fun j ej => own_base hE j ej)
          have hE9' : y9.ownsRow wr.heap.size 9 1 v9 (L ++ [exN (i + 1)]).length (strs (L ++ [exN (i + 1)])) := by rw [HL2.out, strs_snoc, HSX.out]; exact hE9
          obtain ⟨A9, c9, e9, hc9, hr9, _⟩ := RV.ofOwn hE9'
          rw [HL2.out] at e9
          subst e9
          have hfc := Fits_c A9 c9 wide (L ++ [exN (i + 1)]) y9 hr9 (by omega) HLL.out HFF.out
          rw [HL2.out] at hfc
          have hbb9 := HBW.out.trans (hb9.mono hsw)
          have hT9 := HTB.out y9 hb9
          clear HB' HT' hE hp hg9 hE9 hE9' hr9 hb9
          go_simp
          refine hK.out _ _ (fun _ => hT9) ?_
          clear hK K hT9
          refine WL.late (i := 13) (by kernel_rfl) rfl (by kernel_rfl) (fun K hK => ?_)
          go_simp
          go_at_call 36
          refine hfc.mono ?_
          rintro e y10 ⟨rfl, hwe⟩
          subst hwe
          clear hfc
          have hft := HFT.out
          rw [HL2.out] at hft
          obtain ⟨bo, hbo⟩ : ∃ bo, decide (128 + (L ++ [exN (i + 1)]).flatten.length + 34 * (L.length + 1) ≤ 128 * wide) = bo := ⟨_, rfl⟩
          rw [hbo]
          have hft2 : bo = true ↔ i + 1 ≤ R := by rw [← hbo, decide_eq_true_eq]; exact hft
          clear hbo hft
          cases bo with
          | true =>
            have hle : i + 1 ≤ R := hft2.1 rfl
            clear hft2
            go_simp
            refine hK.out _ _ ?_
            clear hK K
            refine WL.late (i := 14) (by kernel_rfl) rfl (by kernel_rfl) (fun K hK => ?_)
            go_simp
            refine hK.out _ _ ?_
            clear hK K
            refine WL.done (by kernel_rfl) ?_ _
            go_wp2_with fail
            exact ⟨⟨i + 1, by omega, hle, by go_num, by rw [HSX.out], hbb9⟩, by simp [intOf]; omega⟩
          | false =>
            have hle : ¬ (i + 1 ≤ R) := fun h => by have := hft2.2 h; cases this
            clear hft2
            obtain rfl : i = R := by omega
            go_simp
            refine hK.out _ _ ?_
            clear hK K
            refine WL.late (i := 14) (by kernel_rfl) rfl (by kernel_rfl) (fun K hK => ?_)
            go_simp
            refine hK.out _ _ ?_
            clear hK K
            refine WL.done (by kernel_rfl) ?_ _
            go_wp2_with fail
            go_ret
            exact ⟨rfl, hbb9⟩
      · go_simp
        have hb' := HB'.alloc (HB'.size) (.cells #[.string S2] 9)
        have hp := RV.one 9 x0 (.string S2)
        have hgp : x0.heap.size < (x0.alloc (.cells #[.string S2] 9)).heap.size := by simp
        refine hK.out _ _ (fun _ => HTB.out _ hb') ?_
        clear hK K HB' HT'
        generalize x0.alloc (.cells #[.string S2] 9) = x6 at hb' hp hgp ⊢
        generalize x0.heap.size = gp at hp hgp ⊢
        have HB' := hb'
        clear hb'
        have HT' := HTB.out _ HB'
        refine WL.one (i := 0) (by kernel_rfl) rfl (fun K hK => ?_)
        go_simp
        have hE := own_weaken (emptyV 9 1 x6) HB'.size
        have hb' := HB'.alloc (HB'.size) (.cells #[] 9)
        replace hp := hp.below ((Below.refl x6.heap.size x6).alloc (Nat.le_refl _) (.cells #[] 9))
        have hpne : gp ≠ x6.heap.size := by omega
        have hlt' := heap_alloc_new x6 (.cells #[] 9)
        refine hK.out _ _ (fun _ => HTB.out _ hb') ?_
        clear hK K HB' HT'
        clear hgp
        generalize x6.alloc (.cells #[] 9) = x7 at hb' hE hlt' hp ⊢
        generalize x6.heap.size = g0 at hE hlt' hpne ⊢
        have HB' := hb'
        clear hb'
        have HT' := HTB.out _ HB'
        refine WL.one (i := 5) (by kernel_rfl) rfl (fun K hK => ?_)
        rw [if_pos (by rfl)]
        refine wp_append_RV wr.heap.size (.tmp 15) (.tmp 19) 44 9 (.string ⟨#[]⟩) 1 16 (by rfl) Try.underlying44 info_str (by rfl) (by decide) _ 0 [] AL L.length cL (strs L) (by rfl) (by rfl) hE (HRLR.out.below HB') (by rw [strs_len]; omega) (strs_one L) HB'.size (by omega) (by omega) ?_
        intro v5 x8 hE' hgr
        have hb' := HB'.grown hgr HB'.size (fun j ej => own_base hE j ej)
        replace hp := hp.grown hgr hE (fun _ g o e e' => by cases e; injection e' with e'; exact hpne e'.symm)
        rw [Nat.zero_add, List.nil_append] at hE'
        obtain ⟨A5, c5, e5, hc5, _⟩ := RV.ofOwn hE'
        subst e5
        go_simp
        refine hK.out _ _ (fun _ => HTB.out _ hb') ?_
        clear hK K HB' HT' hE hgr hpne
        have hE := hE'
        clear hE'
        have HB' := hb'
        clear hb'
        have HT' := HTB.out _ HB'
        refine WL.one (i := 8) (by kernel_rfl) rfl (fun K hK => ?_)
        rw [if_pos (by rfl)]
        refine wp_append_RV wr.heap.size (.tmp 20) (.tmp 22) 44 9 (.string ⟨#[]⟩) 1 16 (by rfl) Try.underlying44 info_str (by rfl) (by decide) _ L.length (strs L) (some ⟨gp, 0, none⟩) 1 1 [.string S2] (by rfl) (by rfl) hE hp (by simp) (by simp [Value.oneCell']) HB'.size (by omega) (by omega) ?_
        intro v9 y9 hE9 hg9
        have hb9 := HB'.grown hg9 HB'.size (fun j ej => own_base hE j ej)
        have hE9' : y9.ownsRow wr.heap.size 9 1 v9 (L ++ [exN (i + 1)]).length (strs (L ++ [exN (i + 1)])) := by rw [HL2.out, strs_snoc, HSX.out]; exact hE9
        obtain ⟨A9, c9, e9, hc9, hr9, _⟩ := RV.ofOwn hE9'
        rw [HL2.out] at e9
        subst e9
        have hfc := Fits_c A9 c9 wide (L ++ [exN (i + 1)]) y9 hr9 (by omega) HLL.out HFF.out
        rw [HL2.out] at hfc
        have hbb9 := HBW.out.trans (hb9.mono hsw)
        have hT9 := HTB.out y9 hb9
        clear HB' HT' hE hp hg9 hE9 hE9' hr9 hb9
        go_simp
        refine hK.out _ _ (fun _ => hT9) ?_
        clear hK K hT9
        refine WL.late (i := 13) (by kernel_rfl) rfl (by kernel_rfl) (fun K hK => ?_)
        go_simp
        go_at_call 36
        refine hfc.mono ?_
        rintro e y10 ⟨rfl, hwe⟩
        subst hwe
        clear hfc
        have hft := HFT.out
        rw [HL2.out] at hft
        obtain ⟨bo, hbo⟩ : ∃ bo, decide (128 + (L ++ [exN (i + 1)]).flatten.length + 34 * (L.length + 1) ≤ 128 * wide) = bo := ⟨_, rfl⟩
        rw [hbo]
        have hft2 : bo = true ↔ i + 1 ≤ R := by rw [← hbo, decide_eq_true_eq]; exact hft
        clear hbo hft
        cases bo with
        | true =>
          have hle : i + 1 ≤ R := hft2.1 rfl
          clear hft2
          go_simp
          refine hK.out _ _ ?_
          clear hK K
          refine WL.late (i := 14) (by kernel_rfl) rfl (by kernel_rfl) (fun K hK => ?_)
          go_simp
          refine hK.out _ _ ?_
          clear hK K
          refine WL.done (by kernel_rfl) ?_ _
          go_wp2_with fail
          exact ⟨⟨i + 1, by omega, hle, by go_num, by rw [HSX.out], hbb9⟩, by simp [intOf]; omega⟩
        | false =>
          have hle : ¬ (i + 1 ≤ R) := fun h => by have := hft2.2 h; cases this
          clear hft2
          obtain rfl : i = R := by omega
          go_simp
          refine hK.out _ _ ?_
          clear hK K
          refine WL.late (i := 14) (by kernel_rfl) rfl (by kernel_rfl) (fun K hK => ?_)
          go_simp
          refine hK.out _ _ ?_
          clear hK K
          refine WL.done (by kernel_rfl) ?_ _
          go_wp2_with fail
          go_ret
          exact ⟨rfl, hbb9⟩
    · have d2 : decide ((i : Int) < 512) = false := decide_eq_false (by omega)
      obtain rfl : i = R := by omega
      clear hBw
      go_wp2_with fail
      go_ret
      exact ⟨rfl, HBW.out⟩
end Go.Proofs.Ytejmklfhcealnaa.F
