/- Chunks are added, told, and laid as bytes just as the document says: walked. -/
import Derived.Test.YtejmklfhcealnaaKy
import Derived.Test.YtejmklfhcealnaaDy
import Derived.Deep.Cut
import Derived.Deep.CutRange
set_option linter.unusedVariables false
set_option linter.unusedSimpArgs false
namespace Go.Proofs.Ytejmklfhcealnaa.F
open Go.RowKit Go.Proofs.YtejmklfhcealnaaW.PrintWords
attribute [local go_sem ↓] Go.wp_at_zero Go.wp_at_succ

theorem sums_at {W : World} {A : Option Addr} {L : List (List Nat)} {g : Nat} (h : RV 36 W A L.length (sumsF L)) (hA : A = some ⟨g, 0, none⟩) (j : Nat) (hj : j < L.length) : W.rangeAt g (j * 32) ((sumN L[j]).map (encN .u8)) := fun i v hv => by
  obtain ⟨g', o', e', _, hc⟩ := h.2 (by omega)
  rw [hA] at e'
  cases e'
  have hi : i < 32 := by have := (List.getElem?_eq_some_iff.1 hv).1; simpa [sumN_len] using this
  have h1 : (sumsF L)[j * 32 + i]? = some v := by
    have e : L = L.take j ++ (L[j] :: L.drop (j + 1)) := by rw [← List.drop_eq_getElem_cons hj, List.take_append_drop]
    have e2 : sumsF L = sumsF (L.take j) ++ ((sumN L[j]).map (encN .u8) ++ sumsF (L.drop (j + 1))) := by
      conv => lhs; rw [e]
      unfold sumsF
      rw [List.flatMap_append, List.flatMap_cons]
    have hl : (sumsF (L.take j)).length = j * 32 := by rw [sumsF_len, List.length_take, Nat.min_eq_left (by omega)]
    rw [e2, List.getElem?_append_right (by omega), hl, Nat.add_sub_cancel_left, List.getElem?_append_left (by simpa [sumN_len] using hi)]
    exact hv
  have h2 := hc _ _ h1
  rwa [Nat.zero_add] at h2
/-- false, a world further on. -/
def FalseAt (w wy : World) (v : Value) : Prop := v = .bool false ∧ Below w.heap.size w wy
set_option maxRecDepth 20000 in
set_option maxHeartbeats 16000000 in
theorem PackAdds_ok (id wide : Nat) (A : Option Addr) (c : Nat) (css : List (List Nat)) (w : World) (h1 : id < 4096) (h2 : 4 ≤ wide) (h3 : wide ≤ 64) (hr : RR w A css) (hby : ∀ x ∈ css.flatten, x < 256) (hlen : ∀ x ∈ css, x.length ≤ 140737488351232) :
    Calls Try.prog 5 #[.int .i64 (id : Nat), .int .i64 (wide : Nat), .slice A css.length c] w fun e w' => e = .returned (.bool true) ∧ Below w.heap.size w w' := by
  have hmd := made_ok id wide A c css w h1 h2 h3 hr hby hlen
  have HMD := Lib.hid hmd
  have HID := Lib.hid h1
  have hmx := hr.max
  clear hmd hr hby hlen
  go_enter Try.func5, Try.ntmps5
  go_wp2_with fail
  refine HMD.out.mono ?_
  rintro e w1 ⟨bx, bY, L, rfl, hm⟩
  obtain ⟨hbx, hbY, hpk, hpy, hch, hfit, hb1⟩ := hm
  have hfl := hch.flat.1
  have hl64 := hch.1
  have HPK := Lib.hid hpk
  have HPY := Lib.hid hpy
  have HCH := Lib.hid hch
  have HFL := Lib.hid hfl
  have HB1 := Lib.hid hb1
  have hs1 := hb1.size
  clear hpk hpy hch hfit hb1 HMD hfl
  go_wp2_with fail
  refine (Sums_c bx id wide L w1 HPK.out HCH.out).mono ?_
  rintro e w2 ⟨vs, rfl, hos, hb2⟩
  obtain ⟨AS, cS, eS, hcS, hrS, hA0⟩ := RV.ofOwn hos
  subst eS
  have HRS := Lib.hid hrS
  have HA0 := Lib.hid hA0
  have HPK2 := Lib.hid (HPK.out.below sumN hb2)
  have HPY2 := Lib.hid (HPY.out.below hb2)
  have HB2 := Lib.hid (HB1.out.trans (hb2.mono hs1))
  have hs2 := HB2.out.size
  clear hos hb2 hrS hA0 HPK HPY HB1
  obtain ⟨AL, cL, y1, y2, y4⟩ := HPY2.out
  have hbYw : bY < w2.heap.size := (Array.getElem?_eq_some_iff.1 y1).1
  have HTB : Hid (∀ W', Below w2.heap.size w2 W' → W'.cell? ⟨bY, 2, none⟩ = some (.slice AL L.length cL)) := Lib.hid (fun W' h => by
    have h1 := (h.block bY hbYw).trans y1
    rw [cell_of_row _ _ _ _ _ _ h1]; rfl)
  have HSTR := Lib.hid y2
  obtain ⟨SS, hSS⟩ : ∃ SS, strN (bytesN id L) = SS := ⟨_, rfl⟩
  have HSS := Lib.hid hSS
  have hlf : L.flatten.length ≤ 32768 := HFL.out
  obtain ⟨R, hR⟩ : ∃ R, roomN wide L.length L.flatten.length = R := ⟨_, rfl⟩
  have HRE := Lib.hid hR
  have hR512 : R ≤ 512 := by rw [← hR]; exact room_le _ _ _
  have HLF := Lib.hid hlf
  clear hSS hR hlf y1 y2 y4
  go_wp2_with fail
  go_cut [59] from 29 to 58 (fun s59 wy => FalseAt w2 wy s59)
  case first =>
    refine wp_region_late [5] (fun w' => w'.cell? ⟨bY, 2, none⟩ = some (.slice AL L.length cL)) (by kernel_rfl) (HTB.out _ ((Below.refl _ _).drew)) (fun hT => ?_)
    have HB' : Below w2.heap.size w2 w2.drew := (Below.refl _ _).drew
    have hT' := HTB.out _ HB'
    generalize w2.drew = x0 at HB' hT' hT ⊢
    clear hT
    refine WL.take (i := 0) (v := ?_) rfl (by kernel_rfl) (by kernel_rfl) (by kernel_rfl) (by kernel_rfl) (fun _ _ _ h => h) (Or.inl ⟨by rfl, ?_⟩) (by assumption) ?_
    rotate_left 1
    · (intro w' hSw; (try (replace hSw := hSw (by decide); dsimp only at hSw)); go_split_ands; go_simp; try with_reducible rfl)
    simp only [Act.put, List.getElem_toArray, List.getElem_cons_zero, List.getElem_cons_succ, List.setIfInBounds_toArray, List.set_cons_zero, List.set_cons_succ]
    refine WL.take (i := 1) (v := ?_) rfl (by kernel_rfl) (by kernel_rfl) (by kernel_rfl) (by kernel_rfl) (fun _ _ _ h => h) (Or.inl ⟨by rfl, ?_⟩) (by assumption) ?_
    rotate_left 1
    · (intro w' hSw; (try (replace hSw := hSw (by decide); dsimp only at hSw)); go_split_ands; go_simp; try with_reducible rfl)
    simp only [Act.put, List.getElem_toArray, List.getElem_cons_zero, List.getElem_cons_succ, List.setIfInBounds_toArray, List.set_cons_zero, List.set_cons_succ]
    refine WL.take (i := 2) (v := ?_) rfl (by kernel_rfl) (by kernel_rfl) (by kernel_rfl) (by kernel_rfl) (fun _ _ _ h => h) (Or.inl ⟨by rfl, ?_⟩) (by assumption) ?_
    rotate_left 1
    · (intro w' hSw; (try (replace hSw := hSw (by decide); dsimp only at hSw)); go_split_ands; go_simp; try with_reducible rfl)
    simp only [Act.put, List.getElem_toArray, List.getElem_cons_zero, List.getElem_cons_succ, List.setIfInBounds_toArray, List.set_cons_zero, List.set_cons_succ]
    refine WL.take (i := 3) (v := ?_) rfl (by kernel_rfl) (by kernel_rfl) (by kernel_rfl) (by kernel_rfl) (fun _ _ _ h => h) (Or.inl ⟨by rfl, ?_⟩) (by assumption) ?_
    rotate_left 1
    · (intro w' hSw; (try (replace hSw := hSw (by decide); dsimp only at hSw)); go_split_ands; go_simp; try with_reducible rfl)
    simp only [Act.put, List.getElem_toArray, List.getElem_cons_zero, List.getElem_cons_succ, List.setIfInBounds_toArray, List.set_cons_zero, List.set_cons_succ]
    refine WL.take (i := 4) (v := ?_) rfl (by kernel_rfl) (by kernel_rfl) (by kernel_rfl) (by kernel_rfl) (fun _ _ _ h => h) (Or.inl ⟨by rfl, ?_⟩) (by assumption) ?_
    rotate_left 1
    · (intro w' hSw; (try (replace hSw := hSw (by decide); dsimp only at hSw)); go_split_ands; go_simp; try with_reducible rfl)
    simp only [Act.put, List.getElem_toArray, List.getElem_cons_zero, List.getElem_cons_succ, List.setIfInBounds_toArray, List.set_cons_zero, List.set_cons_succ]
    refine WL.take (i := 5) (v := ?_) rfl (by kernel_rfl) (by kernel_rfl) (by kernel_rfl) (by kernel_rfl) (fun _ _ _ h => h) (Or.inl ⟨by rfl, ?_⟩) (by assumption) ?_
    rotate_left 1
    · (intro w' hSw; (try (replace hSw := hSw (by decide); dsimp only at hSw)); go_split_ands; go_simp; try with_reducible rfl)
    simp only [Act.put, List.getElem_toArray, List.getElem_cons_zero, List.getElem_cons_succ, List.setIfInBounds_toArray, List.set_cons_zero, List.set_cons_succ]
    refine WL.take (i := 6) (v := ?_) rfl (by kernel_rfl) (by kernel_rfl) (by kernel_rfl) (by kernel_rfl) (fun _ _ _ h => h) (Or.inl ⟨by rfl, ?_⟩) (by assumption) ?_
    rotate_left 1
    · (intro w' hSw; (try (replace hSw := hSw (by decide); dsimp only at hSw)); go_split_ands; go_simp; try with_reducible rfl)
    simp only [Act.put, List.getElem_toArray, List.getElem_cons_zero, List.getElem_cons_succ, List.setIfInBounds_toArray, List.set_cons_zero, List.set_cons_succ]
    refine WL.take (i := 7) (v := ?_) rfl (by kernel_rfl) (by kernel_rfl) (by kernel_rfl) (by kernel_rfl) (fun _ _ _ h => h) (Or.inl ⟨by rfl, ?_⟩) (by assumption) ?_
    rotate_left 1
    · (intro w' hSw; (try (replace hSw := hSw (by decide); dsimp only at hSw)); go_split_ands; go_simp; try with_reducible rfl)
    simp only [Act.put, List.getElem_toArray, List.getElem_cons_zero, List.getElem_cons_succ, List.setIfInBounds_toArray, List.set_cons_zero, List.set_cons_succ]
    refine WL.take (i := 8) (v := ?_) rfl (by kernel_rfl) (by kernel_rfl) (by kernel_rfl) (by kernel_rfl) (fun _ _ _ h => h) (Or.inl ⟨by rfl, ?_⟩) (by assumption) ?_
    rotate_left 1
    · (intro w' hSw; (try (replace hSw := hSw (by decide); dsimp only at hSw)); go_split_ands; go_simp; try with_reducible rfl)
    simp only [Act.put, List.getElem_toArray, List.getElem_cons_zero, List.getElem_cons_succ, List.setIfInBounds_toArray, List.set_cons_zero, List.set_cons_succ]
    refine WL.take (i := 9) (v := ?_) rfl (by kernel_rfl) (by kernel_rfl) (by kernel_rfl) (by kernel_rfl) (fun _ _ _ h => h) (Or.inl ⟨by rfl, ?_⟩) (by assumption) ?_
    rotate_left 1
    · (intro w' hSw; (try (replace hSw := hSw (by decide); dsimp only at hSw)); go_split_ands; go_simp; try with_reducible rfl)
    simp only [Act.put, List.getElem_toArray, List.getElem_cons_zero, List.getElem_cons_succ, List.setIfInBounds_toArray, List.set_cons_zero, List.set_cons_succ]
    refine WL.take (i := 11) (v := ?_) rfl (by kernel_rfl) (by kernel_rfl) (by kernel_rfl) (by kernel_rfl) (fun _ _ _ h => h) (Or.inl ⟨by rfl, ?_⟩) (by assumption) ?_
    rotate_left 1
    · (intro w' hSw; (try (replace hSw := hSw (by decide); dsimp only at hSw)); go_split_ands; go_simp; try with_reducible rfl)
    simp only [Act.put, List.getElem_toArray, List.getElem_cons_zero, List.getElem_cons_succ, List.setIfInBounds_toArray, List.set_cons_zero, List.set_cons_succ]
    refine WL.take (i := 12) (v := ?_) rfl (by kernel_rfl) (by kernel_rfl) (by kernel_rfl) (by kernel_rfl) (fun _ _ _ h => h) (Or.inl ⟨by rfl, ?_⟩) (by assumption) ?_
    rotate_left 1
    · (intro w' hSw; (try (replace hSw := hSw (by decide); dsimp only at hSw)); go_split_ands; go_simp; try with_reducible rfl)
    simp only [Act.put, List.getElem_toArray, List.getElem_cons_zero, List.getElem_cons_succ, List.setIfInBounds_toArray, List.set_cons_zero, List.set_cons_succ]
    refine WL.late (i := 10) (by kernel_rfl) rfl (by kernel_rfl) (fun K hK => ?_)
    go_simp
    go_at_call 19
    refine (PLen_c sumN bx id wide L x0 (HPK2.out.below sumN HB')).mono ?_
    rintro e x1 ⟨rfl, hwe⟩
    subst hwe
    go_simp
    refine hK.out _ _ ?_
    clear hK K
    refine WL.take (i := 13) (v := ?_) rfl (by kernel_rfl) (by kernel_rfl) (by kernel_rfl) (by kernel_rfl) (fun _ _ _ h => h) (Or.inl ⟨by rfl, ?_⟩) (by assumption) ?_
    rotate_left 1
    · (intro w' hSw; (try (replace hSw := hSw (by decide); dsimp only at hSw)); go_split_ands; go_simp; try with_reducible rfl)
    simp only [Act.put, List.getElem_toArray, List.getElem_cons_zero, List.getElem_cons_succ, List.setIfInBounds_toArray, List.set_cons_zero, List.set_cons_succ]
    refine WL.take (i := 14) (v := ?_) rfl (by kernel_rfl) (by kernel_rfl) (by kernel_rfl) (by kernel_rfl) (fun _ _ _ h => h) (Or.inl ⟨by rfl, ?_⟩) (by assumption) ?_
    rotate_left 1
    · (intro w' hSw; (try (replace hSw := hSw (by decide); dsimp only at hSw)); go_split_ands; go_simp; try with_reducible rfl)
    simp only [Act.put, List.getElem_toArray, List.getElem_cons_zero, List.getElem_cons_succ, List.setIfInBounds_toArray, List.set_cons_zero, List.set_cons_succ]
    refine WL.take (i := 15) (v := ?_) rfl (by kernel_rfl) (by kernel_rfl) (by kernel_rfl) (by kernel_rfl) (fun _ _ _ h => h) (Or.inl ⟨by rfl, ?_⟩) (by assumption) ?_
    rotate_left 1
    · (intro w' hSw; (try (replace hSw := hSw (by decide); dsimp only at hSw)); go_split_ands; go_simp; try with_reducible rfl)
    simp only [Act.put, List.getElem_toArray, List.getElem_cons_zero, List.getElem_cons_succ, List.setIfInBounds_toArray, List.set_cons_zero, List.set_cons_succ]
    refine WL.take (i := 16) (v := ?_) rfl (by kernel_rfl) (by kernel_rfl) (by kernel_rfl) (by kernel_rfl) (fun _ _ _ h => h) (Or.inl ⟨by rfl, ?_⟩) (by assumption) ?_
    rotate_left 1
    · (intro w' hSw; (try (replace hSw := hSw (by decide); dsimp only at hSw)); go_split_ands; go_simp; try with_reducible rfl)
    simp only [Act.put, List.getElem_toArray, List.getElem_cons_zero, List.getElem_cons_succ, List.setIfInBounds_toArray, List.set_cons_zero, List.set_cons_succ]
    refine WL.take (i := 18) (v := ?_) rfl (by kernel_rfl) (by kernel_rfl) (by kernel_rfl) (by kernel_rfl) (fun _ _ _ h => h) (Or.inl ⟨by rfl, ?_⟩) (by assumption) ?_
    rotate_left 1
    · (intro w' hSw; (try (replace hSw := hSw (by decide); dsimp only at hSw)); go_split_ands; go_simp; try with_reducible rfl)
    simp only [Act.put, List.getElem_toArray, List.getElem_cons_zero, List.getElem_cons_succ, List.setIfInBounds_toArray, List.set_cons_zero, List.set_cons_succ]
    refine WL.late (i := 17) (by kernel_rfl) rfl (by kernel_rfl) (fun K hK => ?_)
    go_simp
    go_at_call 12
    have hrm := Room_c sumN bx id wide L x1 (HPK2.out.below sumN HB') (by omega) h3 hl64 HLF.out
    rw [HRE.out] at hrm
    refine hrm.mono ?_
    rintro e x2 ⟨rfl, hb⟩
    replace HB' := HB'.trans (hb.mono HB'.size)
    clear hrm hb hT'
    have hT' := HTB.out _ HB'
    go_simp
    refine hK.out _ _ ?_
    clear hK K
    refine WL.late (i := 19) (by kernel_rfl) rfl (by kernel_rfl) (fun K hK => ?_)
    go_simp
    go_at_call 20
    have hrm := Room_r bY id wide L x2 (HPY2.out.below HB') (by omega) h3 hl64 HLF.out
    rw [HRE.out] at hrm
    refine hrm.mono ?_
    rintro e x3 ⟨rfl, hb⟩
    replace HB' := HB'.trans (hb.mono HB'.size)
    clear hrm hb hT'
    have hT' := HTB.out _ HB'
    go_simp
    refine hK.out _ _ ?_
    clear hK K
    refine WL.take (i := 20) (v := ?_) rfl (by kernel_rfl) (by kernel_rfl) (by kernel_rfl) (by kernel_rfl) (fun _ _ _ h => h) (Or.inl ⟨by rfl, ?_⟩) (by assumption) ?_
    rotate_left 1
    · (intro w' hSw; (try (replace hSw := hSw (by decide); dsimp only at hSw)); go_split_ands; go_simp; try with_reducible rfl)
    simp only [Act.put, List.getElem_toArray, List.getElem_cons_zero, List.getElem_cons_succ, List.setIfInBounds_toArray, List.set_cons_zero, List.set_cons_succ]
    refine WL.take (i := 21) (v := ?_) rfl (by kernel_rfl) (by kernel_rfl) (by kernel_rfl) (by kernel_rfl) (fun _ _ _ h => h) (Or.inl ⟨by rfl, ?_⟩) (by assumption) ?_
    rotate_left 1
    · (intro w' hSw; (try (replace hSw := hSw (by decide); dsimp only at hSw)); go_split_ands; go_simp; try with_reducible rfl)
    simp only [Act.put, List.getElem_toArray, List.getElem_cons_zero, List.getElem_cons_succ, List.setIfInBounds_toArray, List.set_cons_zero, List.set_cons_succ]
    refine WL.take (i := 22) (v := ?_) rfl (by kernel_rfl) (by kernel_rfl) (by kernel_rfl) (by kernel_rfl) (fun _ _ _ h => h) (Or.inl ⟨by rfl, ?_⟩) (by assumption) ?_
    rotate_left 1
    · (intro w' hSw; (try (replace hSw := hSw (by decide); dsimp only at hSw)); go_split_ands; go_simp; try with_reducible rfl)
    simp only [Act.put, List.getElem_toArray, List.getElem_cons_zero, List.getElem_cons_succ, List.setIfInBounds_toArray, List.set_cons_zero, List.set_cons_succ]
    refine WL.take (i := 23) (v := ?_) rfl (by kernel_rfl) (by kernel_rfl) (by kernel_rfl) (by kernel_rfl) (fun _ _ _ h => h) (Or.inl ⟨by rfl, ?_⟩) (by assumption) ?_
    rotate_left 1
    · (intro w' hSw; (try (replace hSw := hSw (by decide); dsimp only at hSw)); go_split_ands; go_simp; try with_reducible rfl)
    simp only [Act.put, List.getElem_toArray, List.getElem_cons_zero, List.getElem_cons_succ, List.setIfInBounds_toArray, List.set_cons_zero, List.set_cons_succ]
    refine WL.take (i := 26) (v := ?_) rfl (by kernel_rfl) (by kernel_rfl) (by kernel_rfl) (by kernel_rfl) (fun _ _ _ h => h) (Or.inl ⟨by rfl, ?_⟩) (by assumption) ?_
    rotate_left 1
    · (intro w' hSw; (try (replace hSw := hSw (by decide); dsimp only at hSw)); go_split_ands; go_simp; try with_reducible rfl)
    simp only [Act.put, List.getElem_toArray, List.getElem_cons_zero, List.getElem_cons_succ, List.setIfInBounds_toArray, List.set_cons_zero, List.set_cons_succ]
    clear hT'
    have HPKx := HPK2
    have HPYx := HPY2
    refine WL.one (i := 24) (by kernel_rfl) rfl (fun K hK => ?_)
    go_simp
    go_at_call 11
    refine (Bytes_c bx id wide L x3 (HPKx.out.below sumN HB') HID.out HCH.out).mono ?_
    rintro e z1 ⟨vz1, rfl, hox, hbx⟩
    obtain ⟨Ax, cx, eex, hccx, hrx⟩ := hox.reads
    subst eex
    clear hox hccx
    replace HB' := HB'.trans (hbx.mono HB'.size)
    clear hbx
    have hTn := HTB.out _ HB'
    go_simp
    refine hK.out _ _ (fun _ => hTn) ?_
    clear hK K
    clear hTn
    refine WL.two (i := 25) (j := 27) (by kernel_rfl) rfl rfl (fun K hK => ?_) (fun K hK => ?_)
    · have sx := RN.string (P := Try.prog) (src := 27) (dst := 9) (e := 5) (c := cx) Try.underlying27 Try.underlying5 Try.underlying9 hrx
      rw [HSS.out] at sx
      go_simp
      refine hK.out _ _ (fun h => h) ?_
      clear hK K sx hrx
      refine WL.one (i := 27) (by kernel_rfl) rfl (fun K hK => ?_)
      go_simp
      go_at_call 21
      refine (Bytes_r bY id wide L z1 (HPYx.out.below HB') HID.out HCH.out).mono ?_
      rintro e z3 ⟨vz3, rfl, hoy, hby⟩
      obtain ⟨Ay, cy, eey, hccy, hry⟩ := hoy.reads
      subst eey
      clear hoy hccy
      replace HB' := HB'.trans (hby.mono HB'.size)
      clear hby
      have hTn := HTB.out _ HB'
      go_simp
      refine hK.out _ _ (fun _ => hTn) ?_
      clear hK K
      clear hTn
      refine WL.one (i := 28) (by kernel_rfl) rfl (fun K hK => ?_)
      have sy := RN.string (P := Try.prog) (src := 27) (dst := 9) (e := 5) (c := cy) Try.underlying27 Try.underlying5 Try.underlying9 hry
      rw [HSS.out] at sy
      go_simp
      refine hK.out _ _ (fun h => h) ?_
      clear hK K sy hry
      have hT' := HTB.out _ HB'
      refine WL.take (i := 29) (v := ?_) rfl (by kernel_rfl) (by kernel_rfl) (by kernel_rfl) (by kernel_rfl) (fun _ _ _ h => h) (Or.inl ⟨by rfl, ?_⟩) (by assumption) ?_
      rotate_left 1
      · (intro w' hSw; (try (replace hSw := hSw (by decide); dsimp only at hSw)); go_split_ands; go_simp; try with_reducible rfl)
      simp only [Act.put, List.getElem_toArray, List.getElem_cons_zero, List.getElem_cons_succ, List.setIfInBounds_toArray, List.set_cons_zero, List.set_cons_succ]
      refine WL.take (i := 30) (v := ?_) rfl (by kernel_rfl) (by kernel_rfl) (by kernel_rfl) (by kernel_rfl) (fun _ _ _ h => h) (Or.inl ⟨by rfl, ?_⟩) (by assumption) ?_
      rotate_left 1
      · (intro w' hSw; (try (replace hSw := hSw (by decide); dsimp only at hSw)); go_split_ands; go_simp; try with_reducible rfl)
      simp only [Act.put, List.getElem_toArray, List.getElem_cons_zero, List.getElem_cons_succ, List.setIfInBounds_toArray, List.set_cons_zero, List.set_cons_succ]
      refine WL.done (by kernel_rfl) ?_ _
      go_wp2_with fail
      go_meet
      exact ⟨rfl, HB'⟩
    · go_simp
      go_at_call 21
      refine (Bytes_r bY id wide L z1 (HPYx.out.below HB') HID.out HCH.out).mono ?_
      rintro e z5 ⟨vz5, rfl, hoy, hby⟩
      obtain ⟨Ay, cy, eey, hccy, hry⟩ := hoy.reads
      subst eey
      clear hoy hccy
      replace hrx := hrx.below hby
      replace HB' := HB'.trans (hby.mono HB'.size)
      clear hby
      have hTn := HTB.out _ HB'
      go_simp
      refine hK.out _ _ (fun _ => hTn) ?_
      clear hK K
      clear hTn
      refine WL.two (i := 25) (j := 28) (by kernel_rfl) rfl rfl (fun K hK => ?_) (fun K hK => ?_)
      · have sx := RN.string (P := Try.prog) (src := 27) (dst := 9) (e := 5) (c := cx) Try.underlying27 Try.underlying5 Try.underlying9 hrx
        rw [HSS.out] at sx
        go_simp
        refine hK.out _ _ (fun h => h) ?_
        clear hK K sx hrx
        refine WL.one (i := 28) (by kernel_rfl) rfl (fun K hK => ?_)
        have sy := RN.string (P := Try.prog) (src := 27) (dst := 9) (e := 5) (c := cy) Try.underlying27 Try.underlying5 Try.underlying9 hry
        rw [HSS.out] at sy
        go_simp
        refine hK.out _ _ (fun h => h) ?_
        clear hK K sy hry
        have hT' := HTB.out _ HB'
        refine WL.take (i := 29) (v := ?_) rfl (by kernel_rfl) (by kernel_rfl) (by kernel_rfl) (by kernel_rfl) (fun _ _ _ h => h) (Or.inl ⟨by rfl, ?_⟩) (by assumption) ?_
        rotate_left 1
        · (intro w' hSw; (try (replace hSw := hSw (by decide); dsimp only at hSw)); go_split_ands; go_simp; try with_reducible rfl)
        simp only [Act.put, List.getElem_toArray, List.getElem_cons_zero, List.getElem_cons_succ, List.setIfInBounds_toArray, List.set_cons_zero, List.set_cons_succ]
        refine WL.take (i := 30) (v := ?_) rfl (by kernel_rfl) (by kernel_rfl) (by kernel_rfl) (by kernel_rfl) (fun _ _ _ h => h) (Or.inl ⟨by rfl, ?_⟩) (by assumption) ?_
        rotate_left 1
        · (intro w' hSw; (try (replace hSw := hSw (by decide); dsimp only at hSw)); go_split_ands; go_simp; try with_reducible rfl)
        simp only [Act.put, List.getElem_toArray, List.getElem_cons_zero, List.getElem_cons_succ, List.setIfInBounds_toArray, List.set_cons_zero, List.set_cons_succ]
        refine WL.done (by kernel_rfl) ?_ _
        go_wp2_with fail
        go_meet
        exact ⟨rfl, HB'⟩
      · have sy := RN.string (P := Try.prog) (src := 27) (dst := 9) (e := 5) (c := cy) Try.underlying27 Try.underlying5 Try.underlying9 hry
        rw [HSS.out] at sy
        go_simp
        refine hK.out _ _ (fun h => h) ?_
        clear hK K sy hry
        refine WL.one (i := 25) (by kernel_rfl) rfl (fun K hK => ?_)
        have sx := RN.string (P := Try.prog) (src := 27) (dst := 9) (e := 5) (c := cx) Try.underlying27 Try.underlying5 Try.underlying9 hrx
        rw [HSS.out] at sx
        go_simp
        refine hK.out _ _ (fun h => h) ?_
        clear hK K sx hrx
        have hT' := HTB.out _ HB'
        refine WL.take (i := 29) (v := ?_) rfl (by kernel_rfl) (by kernel_rfl) (by kernel_rfl) (by kernel_rfl) (fun _ _ _ h => h) (Or.inl ⟨by rfl, ?_⟩) (by assumption) ?_
        rotate_left 1
        · (intro w' hSw; (try (replace hSw := hSw (by decide); dsimp only at hSw)); go_split_ands; go_simp; try with_reducible rfl)
        simp only [Act.put, List.getElem_toArray, List.getElem_cons_zero, List.getElem_cons_succ, List.setIfInBounds_toArray, List.set_cons_zero, List.set_cons_succ]
        refine WL.take (i := 30) (v := ?_) rfl (by kernel_rfl) (by kernel_rfl) (by kernel_rfl) (by kernel_rfl) (fun _ _ _ h => h) (Or.inl ⟨by rfl, ?_⟩) (by assumption) ?_
        rotate_left 1
        · (intro w' hSw; (try (replace hSw := hSw (by decide); dsimp only at hSw)); go_split_ands; go_simp; try with_reducible rfl)
        simp only [Act.put, List.getElem_toArray, List.getElem_cons_zero, List.getElem_cons_succ, List.setIfInBounds_toArray, List.set_cons_zero, List.set_cons_succ]
        refine WL.done (by kernel_rfl) ?_ _
        go_wp2_with fail
        go_meet
        exact ⟨rfl, HB'⟩
  case rest =>
    obtain ⟨rfl, hbc⟩ := hcut
    have HBC := Lib.hid hbc
    have hsc := hbc.size
    clear hbc
    go_wp2_with fail
    go_loopw [11] (fun vi W => ∃ k : Nat, k ≤ L.length + 2 ∧ vi = .int .i64 ((k : Int) - 1) ∧ Below w2.heap.size w2 W) (fun vi _ => (L.length + 1 - intOf vi).toNat)
    case atStart => exact ⟨0, by omega, rfl, HBC.out⟩
    case round =>
      obtain ⟨k, hk, rfl, hB⟩ := hrel
      have hsr := hB.size
      have HB := Lib.hid hB
      have HPKr := Lib.hid (HPK2.out.below sumN hB)
      clear hB
      by_cases hk0 : k = 0
      · subst hk0
        have hc0 : ((0 : Nat) : Int) - 1 = -1 := by decide
        have d1 : decide (((0 : Nat) : Int) - 1 ≤ (L.length : Int)) = true := decide_eq_true (by omega)
        have d1' : decide ((-1 : Int) ≤ (L.length : Int)) = true := decide_eq_true (by omega)
        rw [hc0]
        go_wp2_with fail
        refine (ChunkM_bad bx id wide L (-1) wr HPKr.out hl64 (by omega)).mono ?_
        rintro e w5 ⟨rfl, hwe⟩
        subst hwe
        go_wp2_with fail
        exact ⟨⟨1, by omega, by first | rfl | simp, HB.out⟩, by simp [intOf]; omega⟩
      · obtain ⟨j, rfl⟩ : ∃ j, k = j + 1 := ⟨k - 1, by omega⟩
        have hc0 : ((j + 1 : Nat) : Int) - 1 = (j : Int) := by omega
        rw [hc0]
        have d0 : decide ((j : Int) < 0) = false := decide_eq_false (by omega)
        by_cases hlt : j < L.length
        · have d1 : decide ((j : Int) ≤ (L.length : Int)) = true := decide_eq_true (by omega)
          have d1' : decide (j ≤ L.length) = true := decide_eq_true (by omega)
          have e1 : ((j : Int) == (L.length : Int)) = false := by rw [beq_eq_false_iff_ne]; omega
          go_wp2_with fail
          refine (ChunkM_c bx id wide L j wr HPKr.out HCH.out hlt).mono ?_
          rintro e w5 ⟨v5, rfl, ho5, hb5⟩
          have hq := HCH.out.2 _ (List.getElem_mem hlt)
          have hstr := (HSTR.out.below (HB.out.trans (hb5.mono hsr))).strAt j hlt
          have hsum : ∀ W, RV 36 W AS L.length (sumsF L) → ∀ g, AS = some ⟨g, 0, none⟩ → W.rangeAt g (j * 32) ((sumN L[j]).map (encN .u8)) := fun W h g hg => sums_at h hg j hlt
          obtain ⟨q, hqe⟩ : ∃ q, L[j] = q := ⟨_, rfl⟩
          rw [hqe] at ho5 hq hstr hsum
          obtain ⟨A5, c5, e5, hc5, hr5⟩ := ho5.reads
          subst e5
          obtain ⟨gY, oY, eY, a1⟩ := hstr
          subst eY
          obtain ⟨gS, eS, _⟩ := HA0.out (by omega)
          subst eS
          obtain ⟨g5, e5, _, hg5, hg52⟩ := ho5.head (by omega)
          subst e5
          have hB5 := HB.out.trans (hb5.mono hsr)
          have hrg := hsum w5 (HRS.out.below hB5) gS rfl
          have hsl := sumN_len q
          have hnq := fun W => neq_32 W (sumN q) (sumN q) hsl hsl (sumN_lt q) (sumN_lt q)
          have hinf : (Try.prog.info? 36).map (·.size) = some ((sumN q).map (encN .u8)).length := by rw [List.length_map, hsl]; exact info32
          have hrs := fun W (hR : RN .u8 W (some ⟨g5, 0, none⟩) q) => refSum_c (some ⟨g5, 0, none⟩) c5 q W hR hq.2.2 (by omega)
          rw [shaA_eq] at hrs
          obtain ⟨X, hX⟩ : ∃ X, (sumN q).map (encN .u8) = X := ⟨_, rfl⟩
          rw [hX] at hrg hnq hinf hrs
          simp only [decide_true, Bool.not_true] at hnq
          have hq1 := hq.1
          have hql := hq.2.1
          have cell0 : w5.cell? ⟨g5, 0, none⟩ = some (.int .u8 (q[0] : Nat)) := ho5.cellAt 0 (by omega)
          have fr0 := ho5.frozenAt 0
          have hy0 : q[0] < 256 := hq.2.2 _ (List.getElem_mem _)
          obtain ⟨y0, hyy⟩ : ∃ y0, q[0] = y0 := ⟨_, rfl⟩
          rw [hyy] at cell0 hy0
          have hxor : Go.bits .xor .u8 (y0 : Int) 1 = ((y0 ^^^ 1 : Nat) : Int) := u8_xor_nat y0 1 hy0 (by omega)
          obtain ⟨S, hS⟩ : ∃ S, bstr q = S := ⟨_, rfl⟩
          rw [hS] at a1
          have kY := HTB.out w5 hB5
          have HNQ := Lib.hid hnq
          have HINF := Lib.hid hinf
          have HRSUM := Lib.hid hrs
          have HR5 := Lib.hid hr5
          have HB5 := Lib.hid hB5
          have HSE := Lib.hid hS
          have hs5 := hB5.size
          have i0 : (0 : Int) ≤ (j : Int) := by omega
          have i1 : (j : Int) < (L.length : Int) := by omega
          have i2 : (0 : Int) < (q.length : Int) := by omega
          clear ho5 hb5 hq hsum hqe hr5 hB5 hsl hnq hinf hrs hX hyy hS
          go_wp2_with fail
          refine wp_region_late [4, 8, 11, 18] (fun w' => RN .u8 w' (some ⟨g5, 0, none⟩) q ∧ w'.cell? ⟨bY, 2, none⟩ = some (.slice (some ⟨gY, oY, none⟩) L.length cL) ∧ w'.cell? ⟨gY, oY + j, none⟩ = some (.string S) ∧ w'.rangeAt gS (j * 32) X) (by kernel_rfl) ⟨HR5.out.below (Below.refl _ _).drew, kY, a1, (World.rangeAt_drew _ _ _ _).2 hrg⟩ (fun hT => ?_)
          refine WL.take (i := 0) (v := ?_) rfl (by kernel_rfl) (by kernel_rfl) (by kernel_rfl) (by kernel_rfl) (fun _ _ _ h => h) (Or.inl ⟨by rfl, ?_⟩) (by assumption) ?_
          rotate_left 1
          · (intro w' hSw; (try (replace hSw := hSw (by decide); dsimp only at hSw)); go_split_ands; go_simp; try with_reducible rfl)
          simp only [Act.put, List.getElem_toArray, List.getElem_cons_zero, List.getElem_cons_succ, List.setIfInBounds_toArray, List.set_cons_zero, List.set_cons_succ]
          refine WL.take (i := 1) (v := ?_) rfl (by kernel_rfl) (by kernel_rfl) (by kernel_rfl) (by kernel_rfl) (fun _ _ _ h => h) (Or.inl ⟨by rfl, ?_⟩) (by assumption) ?_
          rotate_left 1
          · (intro w' hSw; (try (replace hSw := hSw (by decide); dsimp only at hSw)); go_split_ands; go_simp; try with_reducible rfl)
          simp only [Act.put, List.getElem_toArray, List.getElem_cons_zero, List.getElem_cons_succ, List.setIfInBounds_toArray, List.set_cons_zero, List.set_cons_succ]
          refine WL.take (i := 2) (v := ?_) rfl (by kernel_rfl) (by kernel_rfl) (by kernel_rfl) (by kernel_rfl) (fun _ _ _ h => h) (Or.inl ⟨by rfl, ?_⟩) (by assumption) ?_
          rotate_left 1
          · (intro w' hSw; (try (replace hSw := hSw (by decide); dsimp only at hSw)); go_split_ands; go_simp; try with_reducible rfl)
          simp only [Act.put, List.getElem_toArray, List.getElem_cons_zero, List.getElem_cons_succ, List.setIfInBounds_toArray, List.set_cons_zero, List.set_cons_succ]
          refine WL.take (i := 3) (v := ?_) rfl (by kernel_rfl) (by kernel_rfl) (by kernel_rfl) (by kernel_rfl) (fun _ _ _ h => h) (Or.inl ⟨by rfl, ?_⟩) (by assumption) ?_
          rotate_left 1
          · (intro w' hSw; (try (replace hSw := hSw (by decide); dsimp only at hSw)); go_split_ands; go_simp; try with_reducible rfl)
          simp only [Act.put, List.getElem_toArray, List.getElem_cons_zero, List.getElem_cons_succ, List.setIfInBounds_toArray, List.set_cons_zero, List.set_cons_succ]
          refine WL.take (i := 4) (v := .string S) rfl (by kernel_rfl) (by kernel_rfl) (by kernel_rfl) (by kernel_rfl) (fun _ _ _ h => h) (HSE.out ▸ yields_string (by rfl) 27 9 5 (.tmp 90) (by rfl) (some ⟨g5, 0, none⟩) c5 q (by rfl) _ (fun w' h => (h (by decide)).1) Try.underlying27 Try.underlying5 Try.underlying9) hT ?_
          simp only [Act.put, List.getElem_toArray, List.getElem_cons_zero, List.getElem_cons_succ, List.setIfInBounds_toArray, List.set_cons_zero, List.set_cons_succ]
          refine WL.take (i := 5) (v := ?_) rfl (by kernel_rfl) (by kernel_rfl) (by kernel_rfl) (by kernel_rfl) (fun _ _ _ h => h) (Or.inl ⟨by rfl, ?_⟩) (by assumption) ?_
          rotate_left 1
          · (intro w' hSw; (try (replace hSw := hSw (by decide); dsimp only at hSw)); go_split_ands; go_simp; try with_reducible rfl)
          simp only [Act.put, List.getElem_toArray, List.getElem_cons_zero, List.getElem_cons_succ, List.setIfInBounds_toArray, List.set_cons_zero, List.set_cons_succ]
          refine WL.take (i := 6) (v := ?_) rfl (by kernel_rfl) (by kernel_rfl) (by kernel_rfl) (by kernel_rfl) (fun _ _ _ h => h) (Or.inl ⟨by rfl, ?_⟩) (by assumption) ?_
          rotate_left 1
          · (intro w' hSw; (try (replace hSw := hSw (by decide); dsimp only at hSw)); go_split_ands; go_simp; try with_reducible rfl)
          simp only [Act.put, List.getElem_toArray, List.getElem_cons_zero, List.getElem_cons_succ, List.setIfInBounds_toArray, List.set_cons_zero, List.set_cons_succ]
          refine WL.take (i := 7) (v := ?_) rfl (by kernel_rfl) (by kernel_rfl) (by kernel_rfl) (by kernel_rfl) (fun _ _ _ h => h) (Or.inl ⟨by rfl, ?_⟩) (by assumption) ?_
          rotate_left 1
          · (intro w' hSw; (try (replace hSw := hSw (by decide); dsimp only at hSw)); go_split_ands; go_simp; try with_reducible rfl)
          simp only [Act.put, List.getElem_toArray, List.getElem_cons_zero, List.getElem_cons_succ, List.setIfInBounds_toArray, List.set_cons_zero, List.set_cons_succ]
          refine WL.take (i := 8) (v := ?_) rfl (by kernel_rfl) (by kernel_rfl) (by kernel_rfl) (by kernel_rfl) (fun _ _ _ h => h) (Or.inl ⟨by rfl, ?_⟩) (by assumption) ?_
          rotate_left 1
          · (intro w' hSw; (try (replace hSw := hSw (by decide); dsimp only at hSw)); go_split_ands; go_simp; try with_reducible rfl)
          simp only [Act.put, List.getElem_toArray, List.getElem_cons_zero, List.getElem_cons_succ, List.setIfInBounds_toArray, List.set_cons_zero, List.set_cons_succ]
          refine WL.take (i := 9) (v := ?_) rfl (by kernel_rfl) (by kernel_rfl) (by kernel_rfl) (by kernel_rfl) (fun _ _ _ h => h) (Or.inl ⟨by rfl, ?_⟩) (by assumption) ?_
          rotate_left 1
          · (intro w' hSw; (try (replace hSw := hSw (by decide); dsimp only at hSw)); go_split_ands; go_simp; try with_reducible rfl)
          simp only [Act.put, List.getElem_toArray, List.getElem_cons_zero, List.getElem_cons_succ, List.setIfInBounds_toArray, List.set_cons_zero, List.set_cons_succ]
          refine WL.take (i := 10) (v := ?_) rfl (by kernel_rfl) (by kernel_rfl) (by kernel_rfl) (by kernel_rfl) (fun _ _ _ h => h) (Or.inl ⟨by rfl, ?_⟩) (by assumption) ?_
          rotate_left 1
          · (intro w' hSw; (try (replace hSw := hSw (by decide); dsimp only at hSw)); go_split_ands; go_simp; try with_reducible rfl)
          simp only [Act.put, List.getElem_toArray, List.getElem_cons_zero, List.getElem_cons_succ, List.setIfInBounds_toArray, List.set_cons_zero, List.set_cons_succ]
          refine WL.take (i := 11) (v := ?_) rfl (by kernel_rfl) (by kernel_rfl) (by kernel_rfl) (by kernel_rfl) (fun _ _ _ h => h) (Or.inl ⟨by rfl, ?_⟩) (by assumption) ?_
          rotate_left 1
          · (intro w' hSw; (try (replace hSw := hSw (by decide); dsimp only at hSw)); go_split_ands; go_simp; try with_reducible rfl)
          simp only [Act.put, List.getElem_toArray, List.getElem_cons_zero, List.getElem_cons_succ, List.setIfInBounds_toArray, List.set_cons_zero, List.set_cons_succ]
          refine WL.take (i := 12) (v := ?_) rfl (by kernel_rfl) (by kernel_rfl) (by kernel_rfl) (by kernel_rfl) (fun _ _ _ h => h) (Or.inl ⟨by rfl, ?_⟩) (by assumption) ?_
          rotate_left 1
          · (intro w' hSw; (try (replace hSw := hSw (by decide); dsimp only at hSw)); go_split_ands; go_simp; try with_reducible rfl)
          simp only [Act.put, List.getElem_toArray, List.getElem_cons_zero, List.getElem_cons_succ, List.setIfInBounds_toArray, List.set_cons_zero, List.set_cons_succ]
          refine WL.take (i := 13) (v := ?_) rfl (by kernel_rfl) (by kernel_rfl) (by kernel_rfl) (by kernel_rfl) (fun _ _ _ h => h) (Or.inl ⟨by rfl, ?_⟩) (by assumption) ?_
          rotate_left 1
          · (intro w' hSw; (try (replace hSw := hSw (by decide); dsimp only at hSw)); go_split_ands; go_simp; try with_reducible rfl)
          simp only [Act.put, List.getElem_toArray, List.getElem_cons_zero, List.getElem_cons_succ, List.setIfInBounds_toArray, List.set_cons_zero, List.set_cons_succ]
          refine WL.take (i := 14) (v := ?_) rfl (by kernel_rfl) (by kernel_rfl) (by kernel_rfl) (by kernel_rfl) (fun _ _ _ h => h) (Or.inl ⟨by rfl, ?_⟩) (by assumption) ?_
          rotate_left 1
          · (intro w' hSw; (try (replace hSw := hSw (by decide); dsimp only at hSw)); go_split_ands; go_simp; try with_reducible rfl)
          simp only [Act.put, List.getElem_toArray, List.getElem_cons_zero, List.getElem_cons_succ, List.setIfInBounds_toArray, List.set_cons_zero, List.set_cons_succ]
          refine WL.take (i := 15) (v := ?_) rfl (by kernel_rfl) (by kernel_rfl) (by kernel_rfl) (by kernel_rfl) (fun _ _ _ h => h) (Or.inl ⟨by rfl, ?_⟩) (by assumption) ?_
          rotate_left 1
          · (intro w' hSw; (try (replace hSw := hSw (by decide); dsimp only at hSw)); go_split_ands; go_simp; try with_reducible rfl)
          simp only [Act.put, List.getElem_toArray, List.getElem_cons_zero, List.getElem_cons_succ, List.setIfInBounds_toArray, List.set_cons_zero, List.set_cons_succ]
          refine WL.take (i := 16) (v := ?_) rfl (by kernel_rfl) (by kernel_rfl) (by kernel_rfl) (by kernel_rfl) (fun _ _ _ h => h) (Or.inl ⟨by rfl, ?_⟩) (by assumption) ?_
          rotate_left 1
          · (intro w' hSw; (try (replace hSw := hSw (by decide); dsimp only at hSw)); go_split_ands; go_simp; try with_reducible rfl)
          simp only [Act.put, List.getElem_toArray, List.getElem_cons_zero, List.getElem_cons_succ, List.setIfInBounds_toArray, List.set_cons_zero, List.set_cons_succ]
          refine WL.take (i := 17) (v := ?_) rfl (by kernel_rfl) (by kernel_rfl) (by kernel_rfl) (by kernel_rfl) (fun _ _ _ h => h) (Or.inl ⟨by rfl, ?_⟩) (by assumption) ?_
          rotate_left 1
          · (intro w' hSw; (try (replace hSw := hSw (by decide); dsimp only at hSw)); go_split_ands; go_simp; try with_reducible rfl)
          simp only [Act.put, List.getElem_toArray, List.getElem_cons_zero, List.getElem_cons_succ, List.setIfInBounds_toArray, List.set_cons_zero, List.set_cons_succ]
          refine WL.take (i := 18) (v := .agg X.toArray) rfl (by kernel_rfl) (by kernel_rfl) (by kernel_rfl) (by kernel_rfl) (fun _ _ _ h => h) (yieldsIf_load_mid (by rfl) 36 (.tmp 104) (by rfl) gS (j * 32) (by rfl) X _ (fun w' h => (h (by decide)).2.2.2) Try.underlying36 (by rfl) HINF.out) hT ?_
          simp only [Act.put, List.getElem_toArray, List.getElem_cons_zero, List.getElem_cons_succ, List.setIfInBounds_toArray, List.set_cons_zero, List.set_cons_succ]
          refine WL.take (i := 19) (v := ?_) rfl (by kernel_rfl) (by kernel_rfl) (by kernel_rfl) (by kernel_rfl) (fun _ _ _ h => h) (Or.inl ⟨by rfl, ?_⟩) (by assumption) ?_
          rotate_left 1
          · (intro w' hSw; (try (replace hSw := hSw (by decide); dsimp only at hSw)); go_split_ands; go_simp; try with_reducible rfl)
          simp only [Act.put, List.getElem_toArray, List.getElem_cons_zero, List.getElem_cons_succ, List.setIfInBounds_toArray, List.set_cons_zero, List.set_cons_succ]
          refine WL.one (i := 20) (by kernel_rfl) rfl (fun K hK => ?_)
          go_simp
          go_at_call 23
          refine (HRSUM.out _ (HR5.out.below (Below.refl _ _).drew)).mono ?_
          rintro e w6 ⟨rfl, hb6⟩
          replace hb6 : Below w5.heap.size w5 w6 := ⟨hb6.os, hb6.tape, hb6.output, hb6.size, hb6.block⟩
          have HB6 := Lib.hid (HB5.out.trans (hb6.mono hs5))
          have cell6 := (hb6.cell (p := ⟨g5, 0, none⟩) hg52).trans cell0
          have fr6 : w6.frozen? ⟨g5, 0, none⟩ = false := (hb6.frozen (p := ⟨g5, 0, none⟩) hg52).trans fr0
          have hT6 : RN .u8 w6 (some ⟨g5, 0, none⟩) q ∧ w6.cell? ⟨bY, 2, none⟩ = some (.slice (some ⟨gY, oY, none⟩) L.length cL) ∧ w6.cell? ⟨gY, oY + j, none⟩ = some (.string S) ∧ w6.rangeAt gS (j * 32) X :=
            ⟨HR5.out.below hb6, HTB.out w6 HB6.out, (hb6.cell (p := ⟨gY, oY + j, none⟩) (World.block_lt_of_cell? _ _ a1)).trans a1, fun i v hv => (hb6.cell (p := ⟨gS, j * 32 + i, none⟩) (World.block_lt_of_cell? _ _ (hrg i v hv))).trans (hrg i v hv)⟩
          clear hb6 hT cell0 fr0 kY a1 hrg
          go_simp
          refine hK.out _ _ (fun _ => hT6) ?_
          clear hK K hT6
          have hnq := HNQ.out
          refine WL.late (i := 21) (by kernel_rfl) rfl (by kernel_rfl) (fun K hK => ?_)
          go_simp
          refine hK.out _ _ ?_
          clear hK K
          refine WL.late (i := 22) (by kernel_rfl) rfl (by kernel_rfl) (fun K hK => ?_)
          go_simp
          refine hK.out _ _ ?_
          clear hK K
          refine WL.done (by kernel_rfl) ?_ _
          clear hnq
          go_wp2_with fail
          exact ⟨⟨j + 1 + 1, by omega, by first | rfl | (congr 1; done) | (congr 1; omega), HB6.out.setCell (by show _ ≤ g5; omega) _⟩, by simp [intOf]; omega⟩
        · by_cases hlt2 : j = L.length
          · subst hlt2
            have d1 : decide ((L.length : Int) ≤ (L.length : Int)) = true := decide_eq_true (by omega)
            have e1 : ((L.length : Int) == (L.length : Int)) = true := by simp
            go_wp2_with fail
            refine (ChunkM_bad bx id wide L (L.length : Nat) wr HPKr.out hl64 (by omega)).mono ?_
            rintro e w5 ⟨rfl, hwe⟩
            subst hwe
            go_wp2_with fail
            exact ⟨⟨L.length + 1 + 1, by omega, by first | rfl | (congr 1; done) | (congr 1; omega), HB.out⟩, by simp [intOf] <;> omega⟩
          · have d1 : decide ((j : Int) ≤ (L.length : Int)) = false := decide_eq_false (by omega)
            have d1' : decide (j ≤ L.length) = false := decide_eq_false (by omega)
            have HPYr := Lib.hid (HPY2.out.below HB.out)
            have HBX := Lib.hid (HB2.out.trans (HB.out.mono hs2))
            go_wp2_with fail
            refine wp_region_late [] (fun _ => True) (by kernel_rfl) trivial (fun hT => ?_)
            refine WL.late (i := 0) (by kernel_rfl) rfl (by kernel_rfl) (fun K hK => ?_)
            go_simp
            go_at_call 15
            refine (live_c _).mono ?_
            rintro e x0 ⟨rfl, hb0⟩
            replace hb0 : Below wr.heap.size wr x0 := ⟨hb0.os, hb0.tape, hb0.output, hb0.size, hb0.block⟩
            have HPKx := Lib.hid (HPKr.out.below sumN hb0)
            have HPYx := Lib.hid (HPYr.out.below hb0)
            have HBX0 := HBX.out.trans (hb0.mono HBX.out.size)
            clear hb0
            go_simp
            refine hK.out _ _ ?_
            clear hK K
            refine WL.take (i := 1) (v := ?_) rfl (by kernel_rfl) (by kernel_rfl) (by kernel_rfl) (by kernel_rfl) (fun _ _ _ h => h) (Or.inl ⟨by rfl, ?_⟩) (by assumption) ?_
            rotate_left 1
            · (intro w' hSw; (try (replace hSw := hSw (by decide); dsimp only at hSw)); go_split_ands; go_simp; try with_reducible rfl)
            simp only [Act.put, List.getElem_toArray, List.getElem_cons_zero, List.getElem_cons_succ, List.setIfInBounds_toArray, List.set_cons_zero, List.set_cons_succ]
            refine WL.take (i := 2) (v := ?_) rfl (by kernel_rfl) (by kernel_rfl) (by kernel_rfl) (by kernel_rfl) (fun _ _ _ h => h) (Or.inl ⟨by rfl, ?_⟩) (by assumption) ?_
            rotate_left 1
            · (intro w' hSw; (try (replace hSw := hSw (by decide); dsimp only at hSw)); go_split_ands; go_simp; try with_reducible rfl)
            simp only [Act.put, List.getElem_toArray, List.getElem_cons_zero, List.getElem_cons_succ, List.setIfInBounds_toArray, List.set_cons_zero, List.set_cons_succ]
            refine WL.take (i := 5) (v := ?_) rfl (by kernel_rfl) (by kernel_rfl) (by kernel_rfl) (by kernel_rfl) (fun _ _ _ h => h) (Or.inl ⟨by rfl, ?_⟩) (by assumption) ?_
            rotate_left 1
            · (intro w' hSw; (try (replace hSw := hSw (by decide); dsimp only at hSw)); go_split_ands; go_simp; try with_reducible rfl)
            simp only [Act.put, List.getElem_toArray, List.getElem_cons_zero, List.getElem_cons_succ, List.setIfInBounds_toArray, List.set_cons_zero, List.set_cons_succ]
            have HB' : Below x0.heap.size x0 x0 := Below.refl _ _
            refine WL.one (i := 3) (by kernel_rfl) rfl (fun K hK => ?_)
            go_simp
            go_at_call 11
            refine (Bytes_c bx id wide L x0 (HPKx.out.below sumN HB') HID.out HCH.out).mono ?_
            rintro e z101 ⟨vz101, rfl, hox, hbx⟩
            obtain ⟨Ax, cx, eex, hccx, hrx⟩ := hox.reads
            subst eex
            clear hox hccx
            replace HB' := HB'.trans (hbx.mono HB'.size)
            clear hbx
            have hTn := trivial
            go_simp
            refine hK.out _ _ (fun _ => hTn) ?_
            clear hK K
            clear hTn
            refine WL.two (i := 4) (j := 6) (by kernel_rfl) rfl rfl (fun K hK => ?_) (fun K hK => ?_)
            · have sx := RN.string (P := Try.prog) (src := 27) (dst := 9) (e := 5) (c := cx) Try.underlying27 Try.underlying5 Try.underlying9 hrx
              rw [HSS.out] at sx
              go_simp
              refine hK.out _ _ (fun h => h) ?_
              clear hK K sx hrx
              refine WL.one (i := 6) (by kernel_rfl) rfl (fun K hK => ?_)
              go_simp
              go_at_call 21
              refine (Bytes_r bY id wide L z101 (HPYx.out.below HB') HID.out HCH.out).mono ?_
              rintro e z103 ⟨vz103, rfl, hoy, hby⟩
              obtain ⟨Ay, cy, eey, hccy, hry⟩ := hoy.reads
              subst eey
              clear hoy hccy
              replace HB' := HB'.trans (hby.mono HB'.size)
              clear hby
              have hTn := trivial
              go_simp
              refine hK.out _ _ (fun _ => hTn) ?_
              clear hK K
              clear hTn
              refine WL.one (i := 7) (by kernel_rfl) rfl (fun K hK => ?_)
              have sy := RN.string (P := Try.prog) (src := 27) (dst := 9) (e := 5) (c := cy) Try.underlying27 Try.underlying5 Try.underlying9 hry
              rw [HSS.out] at sy
              go_simp
              refine hK.out _ _ (fun h => h) ?_
              clear hK K sy hry
              refine WL.take (i := 8) (v := ?_) rfl (by kernel_rfl) (by kernel_rfl) (by kernel_rfl) (by kernel_rfl) (fun _ _ _ h => h) (Or.inl ⟨by rfl, ?_⟩) (by assumption) ?_
              rotate_left 1
              · (intro w' hSw; (try (replace hSw := hSw (by decide); dsimp only at hSw)); go_split_ands; go_simp; try with_reducible rfl)
              simp only [Act.put, List.getElem_toArray, List.getElem_cons_zero, List.getElem_cons_succ, List.setIfInBounds_toArray, List.set_cons_zero, List.set_cons_succ]
              refine WL.take (i := 9) (v := ?_) rfl (by kernel_rfl) (by kernel_rfl) (by kernel_rfl) (by kernel_rfl) (fun _ _ _ h => h) (Or.inl ⟨by rfl, ?_⟩) (by assumption) ?_
              rotate_left 1
              · (intro w' hSw; (try (replace hSw := hSw (by decide); dsimp only at hSw)); go_split_ands; go_simp; try with_reducible rfl)
              simp only [Act.put, List.getElem_toArray, List.getElem_cons_zero, List.getElem_cons_succ, List.setIfInBounds_toArray, List.set_cons_zero, List.set_cons_succ]
              refine WL.late (i := 10) (by kernel_rfl) rfl (by kernel_rfl) (fun K hK => ?_)
              go_simp
              refine hK.out _ _ ?_
              clear hK K
              refine WL.done (by kernel_rfl) ?_ _
              go_wp2_with fail
              go_ret
              exact ⟨rfl, HBX0.trans (HB'.mono HBX0.size)⟩
            · go_simp
              go_at_call 21
              refine (Bytes_r bY id wide L z101 (HPYx.out.below HB') HID.out HCH.out).mono ?_
              rintro e z105 ⟨vz105, rfl, hoy, hby⟩
              obtain ⟨Ay, cy, eey, hccy, hry⟩ := hoy.reads
              subst eey
              clear hoy hccy
              replace hrx := hrx.below hby
              replace HB' := HB'.trans (hby.mono HB'.size)
              clear hby
              have hTn := trivial
              go_simp
              refine hK.out _ _ (fun _ => hTn) ?_
              clear hK K
              clear hTn
              refine WL.two (i := 4) (j := 7) (by kernel_rfl) rfl rfl (fun K hK => ?_) (fun K hK => ?_)
              · have sx := RN.string (P := Try.prog) (src := 27) (dst := 9) (e := 5) (c := cx) Try.underlying27 Try.underlying5 Try.underlying9 hrx
                rw [HSS.out] at sx
                go_simp
                refine hK.out _ _ (fun h => h) ?_
                clear hK K sx hrx
                refine WL.one (i := 7) (by kernel_rfl) rfl (fun K hK => ?_)
                have sy := RN.string (P := Try.prog) (src := 27) (dst := 9) (e := 5) (c := cy) Try.underlying27 Try.underlying5 Try.underlying9 hry
                rw [HSS.out] at sy
                go_simp
                refine hK.out _ _ (fun h => h) ?_
                clear hK K sy hry
                refine WL.take (i := 8) (v := ?_) rfl (by kernel_rfl) (by kernel_rfl) (by kernel_rfl) (by kernel_rfl) (fun _ _ _ h => h) (Or.inl ⟨by rfl, ?_⟩) (by assumption) ?_
                rotate_left 1
                · (intro w' hSw; (try (replace hSw := hSw (by decide); dsimp only at hSw)); go_split_ands; go_simp; try with_reducible rfl)
                simp only [Act.put, List.getElem_toArray, List.getElem_cons_zero, List.getElem_cons_succ, List.setIfInBounds_toArray, List.set_cons_zero, List.set_cons_succ]
                refine WL.take (i := 9) (v := ?_) rfl (by kernel_rfl) (by kernel_rfl) (by kernel_rfl) (by kernel_rfl) (fun _ _ _ h => h) (Or.inl ⟨by rfl, ?_⟩) (by assumption) ?_
                rotate_left 1
                · (intro w' hSw; (try (replace hSw := hSw (by decide); dsimp only at hSw)); go_split_ands; go_simp; try with_reducible rfl)
                simp only [Act.put, List.getElem_toArray, List.getElem_cons_zero, List.getElem_cons_succ, List.setIfInBounds_toArray, List.set_cons_zero, List.set_cons_succ]
                refine WL.late (i := 10) (by kernel_rfl) rfl (by kernel_rfl) (fun K hK => ?_)
                go_simp
                refine hK.out _ _ ?_
                clear hK K
                refine WL.done (by kernel_rfl) ?_ _
                go_wp2_with fail
                go_ret
                exact ⟨rfl, HBX0.trans (HB'.mono HBX0.size)⟩
              · have sy := RN.string (P := Try.prog) (src := 27) (dst := 9) (e := 5) (c := cy) Try.underlying27 Try.underlying5 Try.underlying9 hry
                rw [HSS.out] at sy
                go_simp
                refine hK.out _ _ (fun h => h) ?_
                clear hK K sy hry
                refine WL.one (i := 4) (by kernel_rfl) rfl (fun K hK => ?_)
                have sx := RN.string (P := Try.prog) (src := 27) (dst := 9) (e := 5) (c := cx) Try.underlying27 Try.underlying5 Try.underlying9 hrx
                rw [HSS.out] at sx
                go_simp
                refine hK.out _ _ (fun h => h) ?_
                clear hK K sx hrx
                refine WL.take (i := 8) (v := ?_) rfl (by kernel_rfl) (by kernel_rfl) (by kernel_rfl) (by kernel_rfl) (fun _ _ _ h => h) (Or.inl ⟨by rfl, ?_⟩) (by assumption) ?_
                rotate_left 1
                · (intro w' hSw; (try (replace hSw := hSw (by decide); dsimp only at hSw)); go_split_ands; go_simp; try with_reducible rfl)
                simp only [Act.put, List.getElem_toArray, List.getElem_cons_zero, List.getElem_cons_succ, List.setIfInBounds_toArray, List.set_cons_zero, List.set_cons_succ]
                refine WL.take (i := 9) (v := ?_) rfl (by kernel_rfl) (by kernel_rfl) (by kernel_rfl) (by kernel_rfl) (fun _ _ _ h => h) (Or.inl ⟨by rfl, ?_⟩) (by assumption) ?_
                rotate_left 1
                · (intro w' hSw; (try (replace hSw := hSw (by decide); dsimp only at hSw)); go_split_ands; go_simp; try with_reducible rfl)
                simp only [Act.put, List.getElem_toArray, List.getElem_cons_zero, List.getElem_cons_succ, List.setIfInBounds_toArray, List.set_cons_zero, List.set_cons_succ]
                refine WL.late (i := 10) (by kernel_rfl) rfl (by kernel_rfl) (fun K hK => ?_)
                go_simp
                refine hK.out _ _ ?_
                clear hK K
                refine WL.done (by kernel_rfl) ?_ _
                go_wp2_with fail
                go_ret
                exact ⟨rfl, HBX0.trans (HB'.mono HBX0.size)⟩
theorem PackAdds_walk (id wide : Int) (A : Option Addr) (c : Nat) (css : List (List Nat)) (w : World) (hr : RR w A css) (hby : ∀ x ∈ css.flatten, x < 256) (hlen : ∀ x ∈ css, x.length ≤ 140737488351232) :
    Calls Try.prog 5 #[.int .i64 id, .int .i64 wide, .slice A css.length c] w fun e w' => e = .returned (.bool true) ∧ Below w.heap.size w w' := by
  by_cases hb : id < 0 ∨ 4096 ≤ id ∨ wide < 4 ∨ 64 < wide
  · have hmd := made_bad id wide (.slice A css.length c) w hb
    have HMD := Lib.hid hmd
    clear hmd hb hr hby hlen
    go_enter Try.func5, Try.ntmps5
    go_wp2_with fail
    refine HMD.out.mono ?_
    rintro e w1 ⟨rfl, hwe⟩
    subst hwe
    go_wp2_with fail
    refine (live_c w1).mono ?_
    rintro e w2 ⟨rfl, hb2⟩
    have HB2 := Lib.hid hb2
    clear hb2
    go_wp2_with fail
    go_ret
    exact ⟨rfl, HB2.out⟩
  · obtain ⟨i, rfl⟩ : ∃ i : Nat, id = i := ⟨id.toNat, by omega⟩
    obtain ⟨n, rfl⟩ : ∃ n : Nat, wide = n := ⟨wide.toNat, by omega⟩
    exact PackAdds_ok i n A c css w (by omega) (by omega) (by omega) hr hby hlen
end Go.Proofs.Ytejmklfhcealnaa.F
