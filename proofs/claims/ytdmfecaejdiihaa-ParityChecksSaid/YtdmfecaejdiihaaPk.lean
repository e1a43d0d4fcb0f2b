/- The parity of data, walked. -/
import Derived.Test.YtdmfecaejdiihaaPh
set_option linter.unusedVariables false
set_option linter.unusedSimpArgs false
namespace Go.Proofs.Ytdmfecaejdiihaa.F
open Go.RowKit Go.Proofs.YtdmfecaejdiihaaW.PrintWords

/-- The i-th slice is the i-th row. -/
def Fit (W : World) (okc : Nat → Prop) (sv : List SD) (css : List (List Nat)) : Prop :=
  ∀ i (h : i < sv.length) (h2 : i < css.length), sv[i].1.isSome = true ∧ sv[i].2.1 = css[i].length ∧ css[i].length ≤ sv[i].2.2 ∧ RN .u8 W sv[i].1 css[i] ∧ ∀ a, sv[i].1 = some a → okc a.block
/-- A block of slices, some of them still nil. -/
def arrV (sv : List SD) (n : Nat) : Array Value := (sv.map sdv ++ List.replicate (n - sv.length) (Value.slice none 0 0)).toArray
theorem arrV_set (sv : List SD) (n : Nat) (x : SD) (h : sv.length < n) : (arrV sv n).setIfInBounds sv.length (sdv x) = arrV (sv ++ [x]) n := by
  unfold arrV
  rw [List.setIfInBounds_toArray]
  congr 1
  rw [List.set_append_right _ _ (by simp), List.length_map, Nat.sub_self, List.map_append, List.append_assoc, List.length_append, List.length_singleton]
  congr 1
  obtain ⟨k, hk⟩ : ∃ k, n - sv.length = k + 1 := ⟨n - sv.length - 1, by omega⟩
  rw [hk, show n - (sv.length + 1) = k by omega, List.replicate_succ]
  rfl
theorem arrV_get (sv : List SD) (n i : Nat) (h : i < sv.length) : (arrV sv n)[i]? = some (sdv sv[i]) := by
  unfold arrV
  rw [List.getElem?_toArray, List.getElem?_append_left (by simpa using h)]
  simp [h]
theorem arrV_next (sv : List SD) (n : Nat) (h : sv.length < n) : (arrV sv n)[sv.length]? = some (.slice none 0 0) := by
  unfold arrV
  rw [List.getElem?_toArray, List.getElem?_append_right (by simp), List.length_map, Nat.sub_self, List.getElem?_replicate, if_pos (by omega)]
theorem sv_of_arr {W : World} {g n t : Nat} {sv : List SD} (h : W.heap[g]? = some (.cells (arrV sv n) t (0, 0))) (hm : sv.length ≤ 9223372036854775807) : SV W (some ⟨g, 0, none⟩) sv := by
  refine ⟨hm, fun _ => ⟨⟨g, 0, none⟩, rfl, (Array.getElem?_eq_some_iff.1 h).1, fun i hi => ?_⟩⟩
  have e2 : (⟨g, 0, none⟩ : Addr).add i = ⟨g, i, none⟩ := by
    unfold Addr.add
    split
    · rename_i h0; subst h0; rfl
    · simp
  rw [e2, cell_of_row _ _ _ _ _ _ h, arrV_get _ _ _ hi]
  rfl
theorem rr_of_fit {W : World} {A : Option Addr} {sv : List SD} {css : List (List Nat)} {okc : Nat → Prop} (h : SV W A sv) (hf : Fit W okc sv css) (hl : sv.length = css.length) : RR W A css := by
  refine ⟨by rw [← hl]; exact h.1, fun hp => ?_⟩
  obtain ⟨ad, e, _, hc⟩ := h.2 (by omega)
  refine ⟨ad, e, fun i hi => ?_⟩
  obtain ⟨_, h2, h3, h4, _⟩ := hf i (by omega) hi
  exact ⟨sv[i].1, sv[i].2.2, by rw [hc i (by omega), h2], h3, h4⟩
theorem Fit.move {W W' : World} {okc : Nat → Prop} {sv : List SD} {css : List (List Nat)} (h : Fit W okc sv css) (hm : ∀ k, okc k → W'.heap[k]? = W.heap[k]?) : Fit W' okc sv css := fun i h1 h2 => by
  obtain ⟨a1, a2, a3, a4, a5⟩ := h i h1 h2
  exact ⟨a1, a2, a3, a4.move (fun a ha => hm _ (a5 a ha)), a5⟩
theorem Fit.mono {W : World} {okc okc' : Nat → Prop} {sv : List SD} {css : List (List Nat)} (h : Fit W okc sv css) (hm : ∀ k, okc k → okc' k) : Fit W okc' sv css := fun i h1 h2 => by
  obtain ⟨a1, a2, a3, a4, a5⟩ := h i h1 h2
  exact ⟨a1, a2, a3, a4, fun a ha => hm _ (a5 a ha)⟩
theorem Fit.snoc {W : World} {okc : Nat → Prop} {sv : List SD} {css : List (List Nat)} {x : SD} (h : Fit W okc sv css) (hx : ∀ (h2 : sv.length < css.length), x.1.isSome = true ∧ x.2.1 = css[sv.length].length ∧ css[sv.length].length ≤ x.2.2 ∧ RN .u8 W x.1 css[sv.length] ∧ ∀ a, x.1 = some a → okc a.block) : Fit W okc (sv ++ [x]) css := fun i h1 h2 => by
  by_cases hi : i < sv.length
  · have e : (sv ++ [x])[i] = sv[i] := List.getElem_append_left hi
    rw [e]
    exact h i hi h2
  · obtain rfl : i = sv.length := by simp at h1; omega
    have e : (sv ++ [x])[sv.length] = x := by simp
    rw [e]
    exact hx h2
theorem heldLens_fit {W : World} {okc : Nat → Prop} {sv : List SD} {css : List (List Nat)} (h : Fit W okc sv css) (hl : sv.length = css.length) : heldLens sv = css.map List.length := by
  have h1 : sv.filter (fun x => x.1.isSome) = sv := List.filter_eq_self.2 (fun x hx => by
    obtain ⟨i, hi, rfl⟩ := List.getElem_of_mem hx
    exact (h i hi (by omega)).1)
  unfold heldLens
  rw [h1]
  apply List.ext_getElem
  · simpa using hl
  · intro i h1 h2
    simp only [List.getElem_map]
    exact (h i (by simpa using h1) (by simpa using h2)).2.1

set_option maxHeartbeats 4000000 in
theorem Encode_bad (A : Option Addr) (c : Nat) (css : List (List Nat)) (m : Int) (w : World) (hmx : (css.length : Int) ≤ 9223372036854775807) (h : css.length < 1 ∨ 32 < css.length ∨ m < 0 ∨ 16 < m) :
    Calls Try.prog 9 #[.slice A css.length c, .int .i64 m] w fun e w' => e = .returned (.tuple #[.slice none 0 0, .int .i64 2]) ∧ w' = w := by
  by_cases h1 : css.length < 1
  · have d1 : decide ((css.length : Int) < 1) = true := decide_eq_true (by omega)
    go_enter Try.func9, Try.ntmps9
    go_wp2_with fail
    go_ret2
    exact ⟨rfl, rfl⟩
  · have d1 : decide ((css.length : Int) < 1) = false := decide_eq_false (by omega)
    by_cases h2 : 32 < css.length
    · have d2 : decide ((32 : Int) < css.length) = true := decide_eq_true (by omega)
      go_enter Try.func9, Try.ntmps9
      go_wp2_with fail
      go_ret2
      exact ⟨rfl, rfl⟩
    · have d2 : decide ((32 : Int) < css.length) = false := decide_eq_false (by omega)
      by_cases h3 : m < 0
      · have d3 : decide (m < 0) = true := decide_eq_true h3
        go_enter Try.func9, Try.ntmps9
        go_wp2_with fail
        go_ret2
        exact ⟨rfl, rfl⟩
      · have d3 : decide (m < 0) = false := decide_eq_false h3
        have d4 : decide (16 < m) = true := decide_eq_true (by omega)
        go_enter Try.func9, Try.ntmps9
        go_wp2_with fail
        go_ret2
        exact ⟨rfl, rfl⟩
theorem wrongV_same {n L : Nat} {css : List (List Nat)} (h : wrongV (css.map List.length) = 0) (hn : 0 < css.length) : ∃ L, ∀ cs ∈ css, cs.length = L := by
  cases css with
  | nil => simp at hn
  | cons cs css =>
    refine ⟨cs.length, fun x hx => ?_⟩
    simp only [List.map_cons, wrongV] at h
    split at h
    · rename_i hh
      rcases List.mem_cons.1 hx with rfl | hx
      · rfl
      · exact hh _ (List.mem_map.2 ⟨x, hx, rfl⟩)
    · omega

def EncPost (css : List (List Nat)) (m L : Nat) (w : World) (e : Ending) (w' : World) : Prop :=
  ∃ A' c', e = .returned (.tuple #[.slice A' (if wrongV (css.map List.length) = 0 then m else 0) c', .int .i64 (wrongV (css.map List.length))]) ∧
      (wrongV (css.map List.length) = 0 → m ≤ c' ∧ RR w' A' ((grpP css (List.range css.length) L (css.length + m)).drop css.length)) ∧ (wrongV (css.map List.length) ≠ 0 → A' = none ∧ c' = 0) ∧ Below w.heap.size w w'
set_option maxRecDepth 20000 in
set_option maxHeartbeats 8000000 in
/-- Well-formed numbers: the shards of parity, or which lengths differ. -/
theorem Encode_c (A : Option Addr) (c : Nat) (css : List (List Nat)) (m L : Nat) (w : World) (hr : RR w A css) (hn : 0 < css.length) (hn2 : css.length ≤ 32) (hm : m ≤ 16) (hlen : ∀ cs ∈ css, cs.length ≤ 4096) (hb : ∀ cs ∈ css, ∀ y ∈ cs, y < 256)
    (hL : wrongV (css.map List.length) = 0 → ∀ cs ∈ css, cs.length = L) :
    Calls Try.prog 9 #[.slice A css.length c, .int .i64 m] w (EncPost css m L w) := by
  have hmx := hr.max
  have d1 : decide ((css.length : Int) < 1) = false := decide_eq_false (by omega)
  have d2 : decide ((32 : Int) < css.length) = false := decide_eq_false (by omega)
  have d3 : decide ((m : Int) < 0) = false := decide_eq_false (by omega)
  have d4 : decide ((16 : Int) < m) = false := decide_eq_false (by omega)
  have hm0 : (0 : Int) ≤ (m : Int) := by omega
  have hm1 : (m : Int) ≤ 16 := by omega
  have hmk := print_make_of (P := Try.prog) 22 29 (.slice none 0 0) 24 Try.underlying22 info_bytes rfl (by decide) css.length (by omega)
  have hg0 : (w.alloc (.cells (madeCells #[.slice none 0 0] css.length) 29)).heap[w.heap.size]? = some (.cells (arrV [] css.length) 29 (0, 0)) := by
    rw [heap_alloc_new]
    congr 2
    apply Array.toList_inj.1
    rw [toList_madeCells_one]
    simp [arrV]
  have hbA : Below w.heap.size w (w.alloc (.cells (madeCells #[.slice none 0 0] css.length) 29)) := (Below.refl _ _).alloc (Nat.le_refl _) _
  obtain ⟨W1, hW1⟩ : ∃ W1, w.alloc (.cells (madeCells #[.slice none 0 0] css.length) 29) = W1 := ⟨_, rfl⟩
  have hs1 : W1.heap.size = w.heap.size + 1 := by rw [← hW1]; simp
  rw [hW1] at hg0 hbA
  have HW1 := Lib.hid hW1
  have HG0 := Lib.hid hg0
  have HBA := Lib.hid hbA
  have HRR := Lib.hid hr
  have HLEN := Lib.hid hlen
  have HBB := Lib.hid hb
  have HL := Lib.hid hL
  clear hW1 hg0 hbA hr hlen hb hL
  go_enter Try.func9, Try.ntmps9
  go_wp2_with (rw [HW1.out])
  go_loopw [7, 32] (fun vp vi W => ∃ (sv : List SD) (okc : Nat → Prop), sv.length ≤ css.length ∧ vi = .int .i64 sv.length ∧ W.heap[w.heap.size]? = some (.cells (arrV sv css.length) 29 (0, 0)) ∧ Fit W okc sv css ∧
      (∀ j, okc j → w.heap.size < j ∧ j < W.heap.size ∧ vp.ownBlock ≠ some j) ∧ OwnN .u8 5 W (w.heap.size + 1) vp (List.range sv.length) ∧ Below w.heap.size w W ∧ w.heap.size < W.heap.size) (fun _ vi _ => css.length - (intOf vi).toNat)
  case atStart => exact ⟨[], fun _ => False, by simp, rfl, HG0.out, fun i h => by simp at h, fun _ h => h.elim, OwnN.nil _ _ _ _, HBA.out, by omega⟩
  case round =>
    obtain ⟨sv, okc, hsl, rfl, hg, hf, hok, ho, hB, hsz⟩ := hrel
    have HG := Lib.hid hg
    have HF := Lib.hid hf
    have HOK := Lib.hid hok
    have HO := Lib.hid ho
    have HB := Lib.hid hB
    clear hg hf hok ho hB
    by_cases hlt : sv.length < css.length
    · have hd : decide ((sv.length : Int) < css.length) = true := decide_eq_true (by omega)
      obtain ⟨ad, A9, c9, e, q9, l9, r9⟩ := (HRR.out.below HB.out).at sv.length hlt
      subst e
      have hyl := HLEN.out _ (List.getElem_mem hlt)
      obtain ⟨ys, hys⟩ : ∃ ys, css[sv.length] = ys := ⟨_, rfl⟩
      rw [hys] at q9 l9 r9 hyl
      have HYS := Lib.hid hys
      obtain ⟨k, hk⟩ : ∃ k, sv.length = k := ⟨_, rfl⟩
      have HK := Lib.hid hk
      have hcell := arrV_next sv css.length hlt
      rw [hk] at hcell hlt hd q9 ⊢
      have hgc : wr.cell? ⟨w.heap.size, k, none⟩ = some (.slice none 0 0) := by rw [cell_of_row _ _ _ _ _ _ HG.out]; exact hcell
      have hgf : wr.frozen? ⟨w.heap.size, k, none⟩ = false := frozen_of_row _ _ _ _ _ HG.out
      have hE := empty_lit wr
      have hbE : Below wr.heap.size wr (wr.alloc (.cells #[] 5)) := (Below.refl _ _).alloc (Nat.le_refl _) _
      have hs2 : wr.heap.size ≤ (wr.alloc (.cells #[] 5)).heap.size := by simp
      have hl1 : (([] : List Nat).length + ys.length) * 1 ≤ 140737488355328 := by simp; omega
      have HE := Lib.hid hE
      have HBE := Lib.hid hbE
      have HR9 := Lib.hid (r9.below hbE)
      have HL1 := Lib.hid hl1
      have i0 : (0 : Int) ≤ (k : Int) := by omega
      have i1 : (k : Int) < (css.length : Int) := by omega
      have i2 : (k : Int) < 256 := by omega
      clear hys hk hcell hE hbE r9 hl1
      obtain ⟨wo, rfl⟩ : ∃ wo : World, wo = wr := ⟨_, rfl⟩
      go_wp2_with (first
        | (at_builtin; refine append_NNw wo.heap.size rfl (.tmp 39) (.tmp 40) 29 5 .u8 1 rfl Try.underlying29 info_u8 (by decide) (.slice (some ⟨wo.heap.size, 0, none⟩) 0 0) [] ys A9 c9 rfl rfl HE.out HR9.out hs2 HL1.out ?_; intro v2 w2 ho2 hg2 hat2; rw [List.nil_append] at ho2; have hb2 := HBE.out.trans (below_grown HE.out hs2 hg2); obtain ⟨A2, c2, rfl, hc2, hn2', ha2, hr2⟩ := ho2.form; have hs2' := hb2.size; have hA2s : A2.isSome = true := (by cases A2 with | none => (rcases hat2 with h | ⟨b, h, _⟩ <;> simp [Value.ownBlock] at h) | some a => rfl); have k2 := (hb2.cell (p := ⟨w.heap.size, k, none⟩) hsz).trans hgc; have k3 := (hb2.frozen (p := ⟨w.heap.size, k, none⟩) hsz).trans hgf; have h3g := heap_setCell_same w2 w.heap.size k _ _ (.slice A2 ys.length c2) ((hb2.block _ hsz).trans HG.out); have h3s : (w2.setCell ⟨w.heap.size, k, none⟩ (.slice A2 ys.length c2)).heap.size = w2.heap.size := (by simp); have h3o : OwnN .u8 5 (w2.setCell ⟨w.heap.size, k, none⟩ (.slice A2 ys.length c2)) (w.heap.size + 1) u7 (List.range k) := (by rw [← HK.out]; exact (HO.out.kept hb2).move (fun j hj => heap_setCell_other _ _ _ _ (fun e => by have e2 : j = w.heap.size := e; have := (HO.out.typed j hj).1; omega))); have hal := (Below.refl (w2.setCell ⟨w.heap.size, k, none⟩ (.slice A2 ys.length c2)).heap.size (w2.setCell ⟨w.heap.size, k, none⟩ (.slice A2 ys.length c2))).alloc (Nat.le_refl _) (.cells #[.int .u8 (k : Nat)] 5); have h4o := h3o.kept hal; have h4l : RN .u8 ((w2.setCell ⟨w.heap.size, k, none⟩ (.slice A2 ys.length c2)).alloc (.cells #[.int .u8 (k : Nat)] 5)) (some ⟨w2.heap.size, 0, none⟩) [k] := (by rw [← h3s]; exact lit_reads .u8 5 _ [k] (by simp)); have h4s : w.heap.size + 1 ≤ ((w2.setCell ⟨w.heap.size, k, none⟩ (.slice A2 ys.length c2)).alloc (.cells #[.int .u8 (k : Nat)] 5)).heap.size := (by simp; omega); have h4k : ((List.range k).length + [k].length) * 1 ≤ 140737488355328 := (by simp; omega); have H3G := Lib.hid h3g; have H4O := Lib.hid h4o; have H4L := Lib.hid h4l; have H4K := Lib.hid h4k; have HAL := Lib.hid hal; have HB2 := Lib.hid hb2; have HR2 := Lib.hid hr2; have HA2 := Lib.hid ha2; have HN2 := Lib.hid hn2'; have HO2 := Lib.hid ho2; clear ho2 hg2 hat2 hb2 hr2 ha2 hn2' h3g h3s h3o h4o h4l h4k hal)
        | (at_builtin; refine append_NNw (w.heap.size + 1) rfl (.tmp 43) (.tmp 46) 29 5 .u8 1 rfl Try.underlying29 info_u8 (by decide) u7 (List.range k) [k] (some ⟨w2.heap.size, 0, none⟩) 1 rfl rfl H4O.out H4L.out h4s H4K.out ?_; intro v4 w4 ho4 hg4 hat4))
      have hz4 : w2.heap.size + 1 ≤ w4.heap.size := by have := hg4.size; simp at this; omega
      have hu7 : ∀ b, u7.ownBlock = some b → w.heap.size < b ∧ b < wo.heap.size := fun b hb => by have := HO.out.typed b hb; omega
      have hm4 : ∀ j, j < w2.heap.size → j ≠ w.heap.size → u7.ownBlock ≠ some j → w4.heap[j]? = w2.heap[j]? := fun j h1 h2 h3 => by
        have e1 := hg4.block j (by simp; omega) (fun e => h3 e.symm)
        have e2 := HAL.out.block j (by simp; omega)
        exact (e1.trans e2).trans (heap_setCell_other _ _ _ _ h2)
      have hg5 : w4.heap[w.heap.size]? = some (.cells (arrV (sv ++ [(A2, ys.length, c2)]) css.length) 29 (0, 0)) := by
        have e1 := hg4.block w.heap.size (by simp; omega) (fun e => by have := hu7 _ e.symm; omega)
        have e2 := HAL.out.block w.heap.size (by simp; omega)
        rw [e1, e2, H3G.out]
        have hse := arrV_set sv css.length (A2, ys.length, c2) (by rw [HK.out]; exact hlt)
        rw [HK.out] at hse
        rw [← hse]
        rfl
      have hf5 : Fit w4 (fun j => okc j ∨ ∃ a, A2 = some a ∧ j = a.block) (sv ++ [(A2, ys.length, c2)]) css := by
        have h1 : Fit w4 okc sv css := HF.out.move (fun j hj => by
          obtain ⟨o1, o2, o3⟩ := HOK.out j hj
          exact (hm4 j (by omega) (by omega) o3).trans (HB2.out.block j o2))
        refine (h1.mono (fun j hj => .inl hj)).snoc (fun h2 => ?_)
        have hyy : css[sv.length] = ys := HYS.out
        rw [hyy]
        exact ⟨hA2s, rfl, hc2, HR2.out.move (fun a ha => hm4 a.block (HA2.out a ha).2 (by have := (HA2.out a ha).1; omega) (fun e => by have := hu7 _ e; have := (HA2.out a ha).1; omega)), fun a ha => .inr ⟨a, ha, rfl⟩⟩
      have hbw : Below w.heap.size w w4 := by
        have e1 := HB.out
        have e2 := HB2.out
        have e3 : Below w.heap.size w2 w4 := ⟨hg4.os.trans (HAL.out.os), hg4.tape.trans HAL.out.tape, hg4.output.trans HAL.out.output, by omega, fun j hj => hm4 j (by omega) (by omega) (fun e => by have := hu7 _ e; omega)⟩
        exact (e1.trans (e2.mono (by omega))).trans e3
      refine ⟨⟨sv ++ [(A2, ys.length, c2)], _, by rw [List.length_append, HK.out]; simp; omega, by rw [List.length_append, HK.out]; go_num, hg5, hf5, ?_, by rw [List.length_append, HK.out, List.length_singleton, List.range_succ]; exact ho4, hbw, by omega⟩, by simp [intOf]; omega⟩
      rintro j (hj | ⟨a, ha, rfl⟩)
      · obtain ⟨o1, o2, o3⟩ := HOK.out j hj
        refine ⟨o1, by omega, fun e => ?_⟩
        rcases hat4 with h | ⟨b, h, hb⟩
        · exact o3 (h ▸ e)
        · rw [h] at e; injection e with e; simp at hb; omega
      · have ho := HA2.out a ha
        refine ⟨by omega, by omega, fun e => ?_⟩
        rcases hat4 with h | ⟨b, h, hb⟩
        · rw [h] at e; have := hu7 _ e; omega
        · rw [h] at e; injection e with e; simp at hb; omega
    · have hd : decide ((sv.length : Int) < css.length) = false := decide_eq_false (by omega)
      have hsl2 : sv.length = css.length := by omega
      have hSV := sv_of_arr HG.out (by omega)
      have hRO := rr_of_fit hSV HF.out hsl2
      have hhl := heldLens_fit HF.out hsl2
      have hsv : ∀ x ∈ sv, x.2.1 ≤ 4096 := fun x hx => by
        obtain ⟨i, hi, rfl⟩ := List.getElem_of_mem hx
        rw [(HF.out i hi (by omega)).2.1]
        exact HLEN.out _ (List.getElem_mem _)
      have hwr := Wrong_p (some ⟨w.heap.size, 0, none⟩) css.length sv hsv wr hSV
      rw [hhl, hsl2] at hwr
      obtain ⟨Ap, cp, rfl, hcp, hnp, hap, hrp⟩ := HO.out.form
      obtain ⟨gp, rfl, hgpl, hgp1, hgp2⟩ := HO.out.head (by rw [List.length_range]; omega)
      have hop := HO.out
      rw [hsl2] at hop ⊢
      simp only [List.length_range] at hop ⊢
      have HWR := Lib.hid hwr
      have HRO := Lib.hid hRO
      have HOP := Lib.hid hop
      obtain ⟨er, her⟩ : ∃ er, wrongV (css.map List.length) = er := ⟨_, rfl⟩
      rw [her] at hwr
      have HER := Lib.hid her
      clear hwr hRO hop hSV hhl hsv hrp her hnp hap hcp HF HG HOK HO
      go_wp2_with fail
      refine HWR.out.mono ?_
      rw [HER.out]
      rintro e w2 ⟨rfl, hb2⟩
      have hLL := HL.out
      rw [HER.out] at hLL
      have HRO2 := Lib.hid (HRO.out.below hb2)
      have HOP2 := Lib.hid (HOP.out.kept hb2)
      have HB2 := Lib.hid (HB.out.trans (hb2.mono HB.out.size))
      clear hb2 HWR HRO HOP HB
      by_cases h0 : er = 0
      · subst h0
        have hgr := group_c (some ⟨w.heap.size, 0, none⟩) css.length gp cp (w.heap.size + 1) css (List.range css.length) L (css.length + m) w2 HRO2.out hn (by simp) (by omega) (hLL rfl) (by have h := HLEN.out _ (List.getElem_mem hn); rw [hLL rfl _ (List.getElem_mem hn)] at h; exact h) HBB.out (by rw [List.length_range]; exact HOP2.out) (by intro y hy; have := List.mem_range.1 hy; omega) List.nodup_range (by omega)
        rw [List.length_range, Int.natCast_add] at hgr
        have HGR := Lib.hid hgr
        clear hgr hLL
        go_wp2_with fail
        refine HGR.out.mono ?_
        rintro e w3 ⟨v3, okc3, rfl, hs3, hb3⟩
        have hg3l := grpP_len css (List.range css.length) L (css.length + m)
        obtain ⟨X3, x3, rfl, hx3, rr3⟩ := hs3.reads
        obtain ⟨i9, hi9, hsz9⟩ := info_sl'
        obtain ⟨X4, hx4, hy4⟩ := RR.cut (P := Try.prog) 22 29 Try.underlying22 hi9 hsz9 X3 (css.length + m) x3 css.length (by omega) (by omega)
        rw [Nat.add_sub_cancel_left] at hx4
        have hfin := hy4 w3 _ hg3l rr3
        rw [hg3l] at hx3 ⊢
        have HFIN := Lib.hid hfin
        have HB3 := Lib.hid (HB2.out.trans (hb3.mono HB2.out.size))
        have s0 : (0 : Int) ≤ (css.length : Int) := by omega
        have s1 : (css.length : Int) ≤ ((css.length + m : Nat) : Int) := by omega
        have s2 : ((css.length + m : Nat) : Int) ≤ (x3 : Int) := by omega
        have s3 : (css.length : Int) + m ≤ (x3 : Int) := by omega
        clear hs3 hb3 rr3 hfin hi9 hsz9 hy4 hg3l
        go_wp2_with fail
        go_ret2
        unfold EncPost
        rw [HER.out]
        exact ⟨X4, x3 - css.length, rfl, fun _ => ⟨by omega, HFIN.out⟩, fun h => absurd rfl h, HB3.out⟩
      · have hne : (er != 0) = true := by simp [h0]
        clear hLL
        go_wp2_with fail
        go_ret2
        unfold EncPost
        rw [HER.out]
        refine ⟨none, 0, ?_, fun h => absurd h h0, fun _ => ⟨rfl, rfl⟩, HB2.out⟩
        rw [if_neg h0]
        rfl
end Go.Proofs.Ytdmfecaejdiihaa.F
