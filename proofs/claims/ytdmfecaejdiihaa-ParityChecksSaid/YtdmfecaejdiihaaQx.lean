/- A shard is told by the others just if the group with it is whole. -/
import Derived.Test.YtdmfecaejdiihaaQw
import Derived.Test.YtdmfecaejdiihaaQz
import Derived.Laws.CopyOwn
set_option linter.unusedVariables false
set_option linter.unusedSimpArgs false
namespace Go.Proofs.Ytdmfecaejdiihaa.F

theorem getD_set_ne (css : List (List Nat)) (i j : Nat) (x : List Nat) (h : j ≠ i) : (css.set i x).getD j [] = css.getD j [] := by
  rw [List.getD_eq_getElem?_getD, List.getD_eq_getElem?_getD, List.getElem?_set_ne (Ne.symm h)]
theorem getD_set_eq (css : List (List Nat)) (i : Nat) (x : List Nat) (h : i < css.length) : (css.set i x).getD i [] = x := by
  rw [List.getD_eq_getElem?_getD, List.getElem?_set_self h]
  rfl
theorem grpR_getD (css : List (List Nat)) (P : List Nat) (L n x : Nat) (h : x < n) : (grpR css P L n).getD x [] = atV css P x L := by
  simp [grpR, List.getD_eq_getElem?_getD, h]
theorem atV_lt {css : List (List Nat)} {P : List Nat} {x L : Nat} (hb : Bt css) : ∀ y ∈ atV css P x L, y < 256 := fun y hy => by
  obtain ⟨i, _, rfl⟩ := List.mem_map.1 hy
  exact gdot_lt' (col_lt hb i)
theorem getD_bt {css : List (List Nat)} (hb : Bt css) (i : Nat) : ∀ y ∈ css.getD i [], y < 256 := fun y hy => by
  by_cases hi : i < css.length
  · rw [show css.getD i [] = css[i] by simp [List.getD_eq_getElem?_getD, hi]] at hy
    exact hb _ (List.getElem_mem _) y hy
  · rw [show css.getD i [] = [] by rw [List.getD_eq_getElem?_getD, List.getElem?_eq_none (by omega)]; rfl] at hy
    simp at hy
theorem locate_plain (css : List (List Nat)) (k L i : Nat) (hb : Bt css) (hn : css.length ≤ 256) (hk : k ≤ css.length) (hi : i < css.length) (P : List Nat) (hP : ∀ z ∈ P, z < css.length ∧ z ≠ i) (hnd : P.Nodup) (hPl : P.length = k) :
    grpR ((List.range k).map fun j => (css.set i ((grpR (P.map fun j => css.getD j []) P L css.length).getD i [])).getD j []) (List.range k) L css.length = css.set i ((grpR (P.map fun j => css.getD j []) P L css.length).getD i []) ↔
      ∀ j, j < css.length → j ≠ i → (grpR (P.map fun j => css.getD j []) P L css.length).getD j [] = css.getD j [] := by
  have hbP : Bt (P.map fun j => css.getD j []) := fun cs hcs => by
    obtain ⟨j, _, rfl⟩ := List.mem_map.1 hcs
    exact getD_bt hb j
  have hP256 : ∀ z ∈ P, z < 256 := fun z hz => by have := (hP z hz).1; omega
  have hk256 : ∀ z ∈ List.range k, z < 256 := fun z hz => by have := List.mem_range.1 hz; omega
  have hV : ∀ x, x < css.length → (grpR (P.map fun j => css.getD j []) P L css.length).getD x [] = atV (P.map fun j => css.getD j []) P x L := fun x hx => grpR_getD _ _ _ _ _ hx
  rw [hV i hi]
  have hlen : (css.set i (atV (P.map fun j => css.getD j []) P i L)).length = css.length := by simp
  constructor
  · intro E j hj hji
    rw [hV j hj]
    have hC : ∀ x, x < css.length → (css.set i (atV (P.map fun j => css.getD j []) P i L)).getD x [] = atV ((List.range k).map fun j => (css.set i (atV (P.map fun j => css.getD j []) P i L)).getD j []) (List.range k) x L := fun x hx => by
      have h := grpR_getD ((List.range k).map fun j => (css.set i (atV (P.map fun j => css.getD j []) P i L)).getD j []) (List.range k) L css.length x hx
      rw [E] at h
      exact h
    have hb0 : Bt ((List.range k).map fun j => (css.set i (atV (P.map fun j => css.getD j []) P i L)).getD j []) := fun cs hcs => by
      obtain ⟨j, _, rfl⟩ := List.mem_map.1 hcs
      by_cases hji : j = i
      · subst hji
        rw [getD_set_eq _ _ _ hi]
        exact atV_lt hbP
      · rw [getD_set_ne _ _ _ _ hji]
        exact getD_bt hb j
    obtain ⟨C0, hC0⟩ : ∃ C0, ((List.range k).map fun j => (css.set i (atV (P.map fun j => css.getD j []) P i L)).getD j []) = C0 := ⟨_, rfl⟩
    rw [hC0] at hC hb0
    have hPm : (P.map fun j => css.getD j []) = P.map fun q => atV C0 (List.range k) q L := List.map_congr_left fun q hq => by
      obtain ⟨h1, h2⟩ := hP q hq
      rw [← hC q h1, getD_set_ne _ _ _ _ h2]
    have h2 := hC j hj
    rw [getD_set_ne _ _ _ _ hji] at h2
    rw [h2, hPm]
    exact atV_any C0 (List.range k) P j L hk256 hP256 hnd (by simp [hPl]) hb0 (by omega)
  · intro h
    have hC : ∀ x, x < css.length → (css.set i (atV (P.map fun j => css.getD j []) P i L)).getD x [] = atV (P.map fun j => css.getD j []) P x L := fun x hx => by
      by_cases hxi : x = i
      · subst hxi; exact getD_set_eq _ _ _ hi
      · rw [getD_set_ne _ _ _ _ hxi, ← h x hx hxi, hV x hx]
    have hm : ((List.range k).map fun j => (css.set i (atV (P.map fun j => css.getD j []) P i L)).getD j []) = (List.range k).map fun q => atV (P.map fun j => css.getD j []) P q L := List.map_congr_left fun q hq => hC q (by have := List.mem_range.1 hq; omega)
    rw [hm]
    apply List.ext_getElem
    · rw [grpR_len, hlen]
    · intro x h1 h2
      rw [grpR_len] at h1
      have e1 := grpR_getD ((List.range k).map fun q => atV (P.map fun j => css.getD j []) P q L) (List.range k) L css.length x h1
      rw [atV_any (P.map fun j => css.getD j []) P (List.range k) x L hP256 hk256 List.nodup_range (by simp [hPl]) hbP (by omega), ← hC x h1] at e1
      simpa [List.getD_eq_getElem?_getD, grpR_len, h1, h2] using e1
end Go.Proofs.Ytdmfecaejdiihaa.F

/- One shard struck out and told anew, walked. -/
set_option linter.unusedVariables false
set_option linter.unusedSimpArgs false
namespace Go.Proofs.Ytdmfecaejdiihaa.F
open Go.RowKit Go.Proofs.YtdmfecaejdiihaaW.PrintWords

theorem sv_set_arr (sv : List SD) (i n : Nat) (x : SD) (h : i < sv.length) : (arrV sv n).setIfInBounds i (sdv x) = arrV (sv.set i x) n := by
  unfold arrV
  rw [List.setIfInBounds_toArray, List.length_set, List.set_append_left _ _ (by simpa using h), List.map_set]
theorem arrV_slice (sv : List SD) (n j : Nat) (v : Value) (h : (arrV sv n)[j]? = some v) : ∃ a b c, v = .slice a b c := by
  unfold arrV at h
  rw [List.getElem?_toArray] at h
  have hm := List.mem_of_getElem? h
  rcases List.mem_append.1 hm with hm | hm
  · obtain ⟨x, _, rfl⟩ := List.mem_map.1 hm
    exact ⟨_, _, _, rfl⟩
  · have := List.eq_of_mem_replicate hm
    exact ⟨_, _, _, this⟩
theorem Cs.set {W : World} {sv : List SD} {css : List (List Nat)} (h : Cs W sv css) (i : Nat) (x : SD) (cs : List Nat) (hl : sv.length = css.length) (hx : RN .u8 W x.1 cs ∧ x.2.1 = cs.length ∧ cs.length ≤ x.2.2) : Cs W (sv.set i x) (css.set i cs) := fun j hj => by
  rw [List.length_set] at hj
  by_cases e : j = i
  · subst e
    rw [getD_set_eq _ _ _ (by omega)]
    simpa using hx
  · rw [getD_set_ne _ _ _ _ e, List.getElem_set_ne (Ne.symm e)]
    exact h j hj
set_option maxRecDepth 20000 in
set_option maxHeartbeats 8000000 in
theorem without_c (A : Option Addr) (c : Nat) (sv : List SD) (css : List (List Nat)) (k : Int) (i : Nat) (o1 : List (List Nat)) (e1 : Int) (b2 : Bool) (w : World) (hI : SV w A sv) (hcs : Cs w sv css) (hl : sv.length = css.length) (hi : i < sv.length) (hn : sv.length ≤ 100)
    (h1 : ∀ A c w, SV w A (sv.set i (none, 0, 0)) → Cs w (sv.set i (none, 0, 0)) (css.set i []) → Calls Try.prog 12 #[.slice A sv.length c, .int .i64 k] w (EncAns o1 e1 w))
    (ho : e1 = 0 → i < o1.length)
    (h2 : e1 = 0 → ∀ A c w h, SV w A (sv.set i h) → Cs w (sv.set i h) (css.set i (o1.getD i [])) → h.1.isSome = true → Calls Try.prog 14 #[.slice A sv.length c, .int .i64 k] w (ChkAns b2 0 w))
    (h3 : e1 = 0 → 0 < (o1.getD i []).length) :
    Calls Try.prog 28 #[.slice A sv.length c, .int .i64 k, .int .i64 i] w fun e w' => e = .returned (.bool (e1 == 0 && b2)) ∧ Below w.heap.size w w' := by
  have hmx : (sv.length : Int) ≤ 9223372036854775807 := by omega
  have hmk := print_make_of (P := Try.prog) 22 29 (.slice none 0 0) 24 Try.underlying22 info_bytes rfl (by decide) sv.length (by omega)
  have hg0 : (w.alloc (.cells (madeCells #[.slice none 0 0] sv.length) 29)).heap[w.heap.size]? = some (.cells (arrV [] sv.length) 29 (0, 0)) := by
    rw [heap_alloc_new]
    congr 2
    apply Array.toList_inj.1
    rw [toList_madeCells_one]
    simp [arrV]
  have hbA : Below w.heap.size w (w.alloc (.cells (madeCells #[.slice none 0 0] sv.length) 29)) := (Below.refl _ _).alloc (Nat.le_refl _) _
  obtain ⟨W1, hW1⟩ : ∃ W1, w.alloc (.cells (madeCells #[.slice none 0 0] sv.length) 29) = W1 := ⟨_, rfl⟩
  have hs1 : W1.heap.size = w.heap.size + 1 := by rw [← hW1]; simp
  rw [hW1] at hg0 hbA
  obtain ⟨ad, e, hadl, hcc⟩ := (hI.below hbA).2 (by omega)
  subst e
  have hsrc : ∀ j v, (sv.map sdv)[j]? = some v → W1.cell? (ad.add j) = some v := fun j v hv => by
    have hj : j < sv.length := by
      rcases Nat.lt_or_ge j sv.length with h | h
      · exact h
      · rw [List.getElem?_eq_none (by simpa using h)] at hv; cases hv
    rw [hcc j hj]
    simp [hj] at hv
    rw [← hv]
    rfl
  have hcp := run_copy_row (P := Try.prog) W1 22 22 3 29 w.heap.size 0 sv.length sv.length ad sv.length c (arrV [] sv.length) 29 (sv.map sdv) Try.underlying22 (by kernel_rfl) hg0 (by simp) hsrc (by simp [arrV]) (fun v hv => by obtain ⟨x, _, rfl⟩ := List.mem_map.1 hv; rfl)
  obtain ⟨W2, hW2⟩ : ∃ W2, W1.setRow w.heap.size ((arrV [] sv.length).toList.take 0 ++ sv.map sdv ++ (arrV [] sv.length).toList.drop (0 + (sv.map sdv).length)).toArray = W2 := ⟨_, rfl⟩
  have hg2 : W2.heap[w.heap.size]? = some (.cells (arrV sv sv.length) 29 (0, 0)) := by
    rw [← hW2, setRow_heap W1 _ _ _ _ _ hg0]
    congr 2
    simp [arrV]
  have hb2 : Below w.heap.size w W2 := by rw [← hW2]; exact below_setRow hbA (Nat.le_refl _) _
  have hs2 : W2.heap.size = w.heap.size + 1 := by rw [← hW2]; simp [World.setRow, hs1]
  rw [hW2, List.length_map] at hcp
  have hc2 : W2.cell? ⟨w.heap.size, i, none⟩ = some (sdv sv[i]) := by rw [cell_of_row _ _ _ _ _ _ hg2]; exact arrV_get _ _ _ hi
  have hf2 : W2.frozen? ⟨w.heap.size, i, none⟩ = false := frozen_of_row _ _ _ _ _ hg2
  have HG2 := Lib.hid hg2
  have HB2 := Lib.hid hb2
  have HW1 := Lib.hid hW1
  have HG0 := Lib.hid hg0
  have HBA := Lib.hid hbA
  have HSRC := Lib.hid hsrc
  have HI := Lib.hid hI
  have HCS := Lib.hid hcs
  have HL := Lib.hid hl
  have H1 := Lib.hid h1
  have H2 := Lib.hid h2
  have H3 := Lib.hid h3
  have HO := Lib.hid ho
  have i0 : (0 : Int) ≤ (i : Int) := by omega
  have i1 : (i : Int) < (sv.length : Int) := by omega
  clear hW2 hg2 hb2 hW1 hg0 hbA hsrc hI hcs h1 h2 h3 hl ho hcc
  go_enter Try.func28, Try.ntmps28
  go_wp2_with (rw [HW1.out])
  have hg3 : (W2.setCell ⟨w.heap.size, i, none⟩ (.slice none 0 0)).heap[w.heap.size]? = some (.cells (arrV (sv.set i (none, 0, 0)) sv.length) 29 (0, 0)) := by
    rw [heap_setCell_same W2 w.heap.size i _ _ _ HG2.out, ← sv_set_arr sv i sv.length (none, 0, 0) hi]
    rfl
  have hb3 : Below w.heap.size w (W2.setCell ⟨w.heap.size, i, none⟩ (.slice none 0 0)) := HB2.out.setCell (p := ⟨w.heap.size, i, none⟩) (Nat.le_refl _) _
  have hs3 : (W2.setCell ⟨w.heap.size, i, none⟩ (.slice none 0 0)).heap.size = w.heap.size + 1 := by simp [hs2]
  have hlen3 : (sv.set i (none, 0, 0)).length = sv.length := by simp
  have hSV3 := sv_of_arr hg3 (by rw [hlen3]; omega)
  have hCs3 := (HCS.out.below hb3).set i (none, 0, 0) [] HL.out ⟨RN.nil _ _, rfl, Nat.le_refl _⟩
  have hcall := H1.out (some ⟨w.heap.size, 0, none⟩) sv.length _ hSV3 hCs3
  have hc3 : (W2.setCell ⟨w.heap.size, i, none⟩ (.slice none 0 0)).cell? ⟨w.heap.size, i, none⟩ = some (.slice none 0 0) := by
    rw [cell_of_row _ _ _ _ _ _ hg3]
    have h := arrV_get (sv.set i (none, 0, 0)) sv.length i (by rw [hlen3]; exact hi)
    rw [h]
    simp [sdv]
  have hf3 : (W2.setCell ⟨w.heap.size, i, none⟩ (.slice none 0 0)).frozen? ⟨w.heap.size, i, none⟩ = false := frozen_of_row _ _ _ _ _ hg3
  obtain ⟨W3, hW3⟩ : ∃ W3, W2.setCell ⟨w.heap.size, i, none⟩ (.slice none 0 0) = W3 := ⟨_, rfl⟩
  rw [hW3] at hg3 hb3 hs3 hcall hc3 hf3 ⊢
  have HG3 := Lib.hid hg3
  have HB3 := Lib.hid hb3
  have HC3 := Lib.hid hc3
  have HF3 := Lib.hid hf3
  have HCALL := Lib.hid hcall
  clear hW3 hg3 hb3 hSV3 hCs3 hcall hc3 hf3 HG2 HB2 HSRC HW1 hcp hc2 hf2 hmk
  refine HCALL.out.mono ?_
  rintro e w4 ⟨A1, c1, rfl, rr1, hb4⟩
  have hc4 := (hb4.cell (p := ⟨w.heap.size, i, none⟩) (by show w.heap.size < _; omega)).trans HC3.out
  have hf4 := (hb4.frozen (p := ⟨w.heap.size, i, none⟩) (by show w.heap.size < _; omega)).trans HF3.out
  have hg4 := (hb4.block w.heap.size (by omega)).trans HG3.out
  have HB4 := Lib.hid (HB3.out.trans (hb4.mono (by omega)))
  have hs4 := hb4.size
  have HG4 := Lib.hid hg4
  have R1 := Lib.hid rr1
  clear rr1 hb4 hg4 HCALL HG3 HB3
  by_cases h0 : e1 = 0
  · subst h0
    have ho := HO.out (by first | rfl | trivial)
    have h3 := H3.out (by first | rfl | trivial)
    have h2 := H2.out (by first | rfl | trivial)
    obtain ⟨ld, A5, c5, e, q5, l5, r5⟩ := R1.out.at i ho
    subst e
    rw [show o1.getD i [] = o1[i] by simp [List.getD_eq_getElem?_getD, ho]] at h3 h2
    obtain ⟨xs, hxs⟩ : ∃ xs, o1[i] = xs := ⟨_, rfl⟩
    rw [hxs] at q5 l5 r5 h3 h2
    obtain ⟨a5, rfl, hz⟩ := r5.at 0 h3
    have hne5 : a5.block ≠ w.heap.size := fun e => by
      have e1 : (arrV (sv.set i (none, 0, 0)) sv.length)[(a5.add 0).off]? = some (.int .u8 (xs[0] : Nat)) := by
        have h := hz
        simp only [World.cell?, add_blk, e, HG4.out] at h
        split at h
        · cases h
        · exact h
      obtain ⟨a, b, c, h⟩ := arrV_slice _ _ _ _ e1
      cases h
    clear hz
    have o2 : (i : Int) < (o1.length : Int) := by omega
    have H2B := Lib.hid h2
    have R5 := Lib.hid r5
    have L5 := Lib.hid l5
    clear hxs h2 h3 r5 l5
    go_wp2_with fail
    have hg5 : (w4.setCell ⟨w.heap.size, i, none⟩ (.slice (some a5) xs.length c5)).heap[w.heap.size]? = some (.cells (arrV (sv.set i (some a5, xs.length, c5)) sv.length) 29 (0, 0)) := by
      rw [heap_setCell_same w4 w.heap.size i _ _ _ HG4.out]
      have h := sv_set_arr (sv.set i (none, 0, 0)) i sv.length (some a5, xs.length, c5) (by rw [hlen3]; exact hi)
      rw [List.set_set] at h
      rw [← h]
      rfl
    have hb5 : Below w.heap.size w (w4.setCell ⟨w.heap.size, i, none⟩ (.slice (some a5) xs.length c5)) := HB4.out.setCell (p := ⟨w.heap.size, i, none⟩) (Nat.le_refl _) _
    have hr5 : RN .u8 (w4.setCell ⟨w.heap.size, i, none⟩ (.slice (some a5) xs.length c5)) (some a5) xs := R5.out.move (fun a ha => heap_setCell_other _ _ _ _ (fun e => by cases ha; exact hne5 e))
    have hSV5 := sv_of_arr hg5 (by simp; omega)
    have hCs5 := (HCS.out.below hb5).set i (some a5, xs.length, c5) xs HL.out ⟨hr5, rfl, L5.out⟩
    refine (H2B.out (some ⟨w.heap.size, 0, none⟩) sv.length _ (some a5, xs.length, c5) hSV5 hCs5 rfl).mono ?_
    rintro e w6 ⟨rfl, hb6⟩
    have HB6 := Lib.hid (hb5.trans (hb6.mono (by have := hb5.size; omega)))
    clear hb6 hg5 hb5 hr5 hSV5 hCs5
    go_wp2_with fail
    go_ret
    exact ⟨by simp, HB6.out⟩
  · have hne : (e1 != 0) = true := by simp [h0]
    go_wp2_with fail
    go_ret
    exact ⟨by simp [h0], HB4.out⟩
end Go.Proofs.Ytdmfecaejdiihaa.F

/- Locate, walked. -/
set_option linter.unusedVariables false
set_option linter.unusedSimpArgs false
namespace Go.Proofs.Ytdmfecaejdiihaa.F
open Go.RowKit Go.Proofs.YtdmfecaejdiihaaW.PrintWords

/-- What a Locate answers, by which shards are told as none of the group. -/
def locV (b : Bool) (er : Int) (wB : Nat → Bool) (n : Nat) : Int × Int :=
  if er ≠ 0 then (0, er) else if b then (-1, 0) else
    match (List.range n).filter wB with
    | [x] => ((x : Int), 0)
    | _ => (0, 13)
theorem filter_succ (wB : Nat → Bool) (i : Nat) : (List.range (i + 1)).filter wB = (List.range i).filter wB ++ (if wB i then [i] else []) := by
  rw [List.range_succ, List.filter_append]
  congr 1
  by_cases h : wB i = true
  · rw [if_pos h, List.filter_cons, if_pos h]; rfl
  · rw [if_neg h, List.filter_cons, if_neg h]; rfl
theorem filter_more (wB : Nat → Bool) (i : Nat) : ∀ n, i ≤ n → ∃ r, (List.range n).filter wB = (List.range i).filter wB ++ r
  | 0, h => ⟨[], by obtain rfl : i = 0 := by omega
                    simp⟩
  | n + 1, h => by
    by_cases hi : i = n + 1
    · exact ⟨[], by rw [hi]; simp⟩
    · obtain ⟨r, hr⟩ := filter_more wB i n (by omega)
      exact ⟨r ++ (if wB n then [n] else []), by rw [filter_succ, hr, List.append_assoc]⟩
/-- What has been found below i. -/
def FoundTo (wB : Nat → Bool) (i : Nat) (f : Int) : Prop := (f = -1 ∧ (List.range i).filter wB = []) ∨ ∃ x : Nat, f = x ∧ x < i ∧ (List.range i).filter wB = [x]
set_option maxRecDepth 20000 in
set_option maxHeartbeats 4000000 in
theorem Locate_c (A : Option Addr) (c n : Nat) (k : Int) (b : Bool) (er : Int) (wB : Nat → Bool) (w : World) (hn : n ≤ 100)
    (hchk : Calls Try.prog 14 #[.slice A n c, .int .i64 k] w (ChkAns b er w))
    (hw : er = 0 → b = false → ∀ i, i < n → ∀ w', Below w.heap.size w w' → Calls Try.prog 28 #[.slice A n c, .int .i64 k, .int .i64 i] w' fun e w'' => e = .returned (.bool (wB i)) ∧ Below w'.heap.size w' w'') :
    Calls Try.prog 16 #[.slice A n c, .int .i64 k] w fun e w' => e = .returned (.tuple #[.int .i64 (locV b er wB n).1, .int .i64 (locV b er wB n).2]) ∧ Below w.heap.size w w' := by
  obtain ⟨lv, hlv⟩ : ∃ lv, locV b er wB n = lv := ⟨_, rfl⟩
  rw [hlv]
  have HLV := Lib.hid hlv
  have HW := Lib.hid hw
  have HCHK := Lib.hid hchk
  have n0 : (n : Int) ≤ 100 := by omega
  clear hlv hw hchk
  go_enter Try.func16, Try.ntmps16
  go_wp2_with fail
  refine HCHK.out.mono ?_
  rintro e w1 ⟨rfl, hb1⟩
  have HB1 := Lib.hid hb1
  clear hb1
  by_cases h0 : er = 0
  · subst h0
    cases b with
    | true =>
      have hl : lv = (-1, 0) := by rw [← HLV.out]; simp [locV]
      go_wp2_with fail
      go_ret2
      rw [hl]
      exact ⟨rfl, HB1.out⟩
    | false =>
      have hw := HW.out (by first | rfl | trivial) (by first | rfl | trivial)
      have HWW := Lib.hid hw
      clear hw
      go_wp2_with fail
      go_loopw [8, 24] (fun vf vi W => ∃ (i : Nat) (f : Int), i ≤ n ∧ vi = .int .i64 i ∧ vf = .int .i64 f ∧ FoundTo wB i f ∧ Below w.heap.size w W) (fun _ vi _ => n - (intOf vi).toNat)
      case atStart => exact ⟨0, -1, by omega, rfl, rfl, .inl ⟨rfl, rfl⟩, HB1.out⟩
      case round =>
        obtain ⟨i, f, hi, rfl, rfl, hf, hB⟩ := hrel
        have HF := Lib.hid hf
        have HB := Lib.hid hB
        have hsz := hB.size
        clear hf hB
        by_cases hlt : i < n
        · have hd : decide ((i : Int) < n) = true := decide_eq_true (by omega)
          have hsc := filter_succ wB i
          obtain ⟨bb, hbb⟩ : ∃ bb, wB i = bb := ⟨_, rfl⟩
          have hcall := HWW.out i hlt wr HB.out
          rw [hbb] at hcall hsc
          have HCALL := Lib.hid hcall
          have HSC := Lib.hid hsc
          clear hcall hsc hbb
          go_wp2_with fail
          refine HCALL.out.mono ?_
          rintro e w3 ⟨rfl, hb3⟩
          have HB3 := Lib.hid (HB.out.trans (hb3.mono hsz))
          clear hb3
          cases bb with
          | false =>
            have hnext : FoundTo wB (i + 1) f := by
              have h := HSC.out
              simp only [Bool.false_eq_true, if_false, List.append_nil] at h
              rcases HF.out with ⟨h1, h2⟩ | ⟨x, h1, h2, h3⟩
              · exact .inl ⟨h1, by rw [h, h2]⟩
              · exact .inr ⟨x, h1, by omega, by rw [h, h3]⟩
            have HNX := Lib.hid hnext
            clear hnext
            go_wp2_with fail
            exact ⟨⟨i + 1, f, by omega, by go_num, rfl, HNX.out, HB3.out⟩, by simp [intOf]; omega⟩
          | true =>
            rcases HF.out with ⟨h1, h2⟩ | ⟨x, h1, h2, h3⟩
            · have hnext : FoundTo wB (i + 1) i := by
                have h := HSC.out
                simp only [if_true] at h
                exact .inr ⟨i, rfl, by omega, by rw [h, h2]; rfl⟩
              have HNX := Lib.hid hnext
              subst h1
              clear hnext h2
              go_wp2_with fail
              exact ⟨⟨i + 1, i, by omega, by go_num, rfl, HNX.out, HB3.out⟩, by simp [intOf]; omega⟩
            · have hl : lv = (0, 13) := by
                obtain ⟨r, hr⟩ := filter_more wB (i + 1) n (by omega)
                have h := HSC.out
                simp only [if_true] at h
                rw [h, h3] at hr
                rw [← HLV.out]
                unfold locV
                rw [if_neg (by simp), if_neg (by simp), hr]
                rfl
              have HL := Lib.hid hl
              subst h1
              clear hl h3
              go_wp2_with fail
              go_ret2
              rw [HL.out]
              exact ⟨rfl, HB3.out⟩
        · have hd : decide ((i : Int) < n) = false := decide_eq_false (by omega)
          obtain rfl : i = n := by omega
          rcases HF.out with ⟨h1, h2⟩ | ⟨x, h1, h2, h3⟩
          · have hl : lv = (0, 13) := by
              rw [← HLV.out]
              unfold locV
              rw [if_neg (by simp), if_neg (by simp), h2]
            have HL := Lib.hid hl
            subst h1
            clear hl h2
            go_wp2_with fail
            go_ret2
            rw [HL.out]
            exact ⟨rfl, HB.out⟩
          · have hl : lv = ((x : Int), 0) := by
              rw [← HLV.out]
              unfold locV
              rw [if_neg (by simp), if_neg (by simp), h3]
            have HL := Lib.hid hl
            subst h1
            clear hl h3
            go_wp2_with fail
            go_ret2
            rw [HL.out]
            exact ⟨rfl, HB.out⟩
  · have hne : (er != 0) = true := by simp [h0]
    have hl : lv = (0, er) := by rw [← HLV.out]; simp [locV, h0]
    go_wp2_with fail
    go_ret2
    rw [hl]
    exact ⟨rfl, HB1.out⟩
end Go.Proofs.Ytdmfecaejdiihaa.F

/- The document's Locate, walked. -/
set_option linter.unusedVariables false
set_option linter.unusedSimpArgs false
namespace Go.Proofs.Ytdmfecaejdiihaa.F
open Go.RowKit Go.Proofs.YtdmfecaejdiihaaW.PrintWords

/-- The rows are alike but for the i-th, below m. -/
def SameBut (a b : List (List Nat)) (i m : Nat) : Prop := ∀ j, j < m → j ≠ i → a.getD j [] = b.getD j []
instance (a b : List (List Nat)) (i m : Nat) : Decidable (SameBut a b i m) := inferInstanceAs (Decidable (∀ j, j < m → j ≠ i → a.getD j [] = b.getD j []))
theorem info_int : (Try.prog.info? 3).map (fun i => (i.zero, i.size, i.bytes)) = some (some (.int .i64 0), 1, 8) := by kernel_rfl
def SBit (a b : List (List Nat)) (i m : Nat) (s : Bool) : Prop := s = true ↔ SameBut a b i m
theorem SBit.start (a b : List (List Nat)) (i : Nat) : SBit a b i 0 true := ⟨fun _ j h => by omega, fun _ => rfl⟩
theorem SBit.succ {a b : List (List Nat)} {i m : Nat} {s s2 : Bool} (h : SBit a b i m s) (h2 : s2 = true ↔ s = true ∧ (m ≠ i → a.getD m [] = b.getD m [])) : SBit a b i (m + 1) s2 := by
  refine ⟨fun e j hj hji => ?_, fun e => h2.2 ⟨h.2 fun j hj hji => e j (by omega) hji, fun hm => e m (by omega) hm⟩⟩
  obtain ⟨h3, h4⟩ := h2.1 e
  by_cases hjm : j = m
  · subst hjm; exact h4 hji
  · exact h.1 h3 j (by omega) hji
theorem ownsRow_pos {W : World} {base e size n : Nat} {v : Value} {xs : List Value} (h : W.ownsRow base e size v n xs) (hn : 0 < n) : ∃ g cap, v = .slice (some ⟨g, 0, none⟩) n cap ∧ base ≤ g ∧ ∃ cur, W.heap[g]? = some (.cells cur e (0, 0)) := by
  rcases h.2 with ⟨_, h0⟩ | ⟨g, cap, cur, e1, hb, hh, _⟩
  · omega
  · exact ⟨g, cap, e1, hb, cur, hh⟩
theorem row_facts {W : World} {base e g cap : Nat} {sv : List SD} (i : Nat) (hi : i < sv.length) (h : W.ownsRow base e 1 (.slice (some ⟨g, 0, none⟩) sv.length cap) sv.length (sv.map sdv)) {cur : Array Value} (hh : W.heap[g]? = some (.cells cur e (0, 0))) :
    SV W (some ⟨g, 0, none⟩) sv ∧ W.cell? ⟨g, i, none⟩ = some (.slice sv[i].1 sv[i].2.1 sv[i].2.2) ∧ W.frozen? ⟨g, i, none⟩ = false := by
  have hsv := sv_of_row h
  refine ⟨hsv, ?_, frozen_of_row _ _ _ _ _ hh⟩
  obtain ⟨ad, e2, _, hc⟩ := hsv.2 (by omega)
  cases e2
  have := hc i hi
  have e3 : (⟨g, 0, none⟩ : Addr).add i = ⟨g, i, none⟩ := by
    unfold Addr.add
    split
    · rename_i h0; subst h0; rfl
    · simp
  rwa [e3] at this
theorem SV.set {W : World} {g : Nat} {sv : List SD} (h : SV W (some ⟨g, 0, none⟩) sv) (i : Nat) (hi : i < sv.length) (x : SD) : SV (W.setCell ⟨g, i, none⟩ (sdv x)) (some ⟨g, 0, none⟩) (sv.set i x) := by
  have e2 : ∀ j, (⟨g, 0, none⟩ : Addr).add j = ⟨g, j, none⟩ := fun j => by
    unfold Addr.add
    split
    · rename_i h0; subst h0; rfl
    · simp
  obtain ⟨ad, e, hlt, hc⟩ := h.2 (by omega)
  cases e
  refine ⟨by rw [List.length_set]; exact h.1, fun _ => ⟨_, rfl, by simpa using hlt, fun j hj => ?_⟩⟩
  rw [List.length_set] at hj
  have hcj := hc j hj
  rw [e2] at hcj ⊢
  by_cases hji : j = i
  · subst hji
    rw [World.cell?_setCell_same' _ _ _ (by rw [hcj]; rfl)]
    simp [sdv]
  · rw [World.cell?_setCell_other _ _ _ _ (by first | (simp; done) | (simp; omega)), List.getElem_set_ne (Ne.symm hji)]
    exact hcj
set_option maxRecDepth 20000 in
set_option maxHeartbeats 8000000 in
theorem rLocate_c (A : Option Addr) (c : Nat) (k : Int) (b : Bool) (er : Int) (sv : List SD) (css : List (List Nat)) (o1 : Nat → List (List Nat)) (e1 : Nat → Int) (w : World) (hI : SV w A sv) (hcs : Cs w sv css) (hl : sv.length = css.length) (hn : sv.length ≤ 100) (hb : Bt css)
    (hchk : Calls Try.prog 15 #[.slice A sv.length c, .int .i64 k] w (ChkAns b er w))
    (h1 : er = 0 → b = false → ∀ i, i < sv.length → ∀ A c w, SV w A (sv.set i (none, 0, 0)) → Cs w (sv.set i (none, 0, 0)) (css.set i []) → Calls Try.prog 13 #[.slice A sv.length c, .int .i64 k] w (EncAns (o1 i) (e1 i) w))
    (ho : er = 0 → b = false → ∀ i, i < sv.length → e1 i = 0 → (o1 i).length = sv.length ∧ Bt (o1 i)) :
    Calls Try.prog 17 #[.slice A sv.length c, .int .i64 k] w fun e w' => e = .returned (.tuple #[.int .i64 (locV b er (fun i => e1 i == 0 && decide (SameBut (o1 i) css i sv.length)) sv.length).1, .int .i64 (locV b er (fun i => e1 i == 0 && decide (SameBut (o1 i) css i sv.length)) sv.length).2]) ∧ Below w.heap.size w w' := by
  obtain ⟨wB, hwB⟩ : ∃ wB : Nat → Bool, (fun i => e1 i == 0 && decide (SameBut (o1 i) css i sv.length)) = wB := ⟨_, rfl⟩
  rw [hwB]
  obtain ⟨lv, hlv⟩ : ∃ lv, locV b er wB sv.length = lv := ⟨_, rfl⟩
  rw [hlv]
  have HWB := Lib.hid hwB
  have HLV := Lib.hid hlv
  have HCHK := Lib.hid hchk
  have HI := Lib.hid hI
  have HCS := Lib.hid hcs
  have HL := Lib.hid hl
  have HB0 := Lib.hid hb
  have H1 := Lib.hid h1
  have HO := Lib.hid ho
  have n0 : (sv.length : Int) ≤ 100 := by omega
  clear hwB hlv hchk hI hcs hl hb h1 ho
  go_enter Try.func17, Try.ntmps17
  go_wp2_with fail
  refine HCHK.out.mono ?_
  rintro e w1 ⟨rfl, hb1⟩
  have HB1 := Lib.hid hb1
  clear hb1
  by_cases h0 : er = 0
  · subst h0
    cases b with
    | true =>
      have hl : lv = (-1, 0) := by rw [← HLV.out]; simp [locV]
      go_wp2_with fail
      go_ret2
      rw [hl]
      exact ⟨rfl, HB1.out⟩
    | false =>
      go_wp2_with fail
      obtain ⟨W2, hW2⟩ : ∃ W2, w1.alloc (.cells #[] 3) = W2 := ⟨_, rfl⟩
      have hf2 : OwnN .i64 3 W2 w1.heap.size (.slice (some ⟨w1.heap.size, 0, none⟩) 0 0) [] := by
        rw [← hW2]
        exact own_lit_of (enc := encN .i64) w1 w1.heap.size 3 [] (Nat.le_refl _) (by simp)
      have hb2 : Below w.heap.size w W2 := by rw [← hW2]; exact HB1.out.alloc HB1.out.size _
      have hs2 : W2.heap.size = w1.heap.size + 1 := by rw [← hW2]; simp
      have HF2 := Lib.hid hf2
      have HB2 := Lib.hid hb2
      have HW2 := Lib.hid hW2
      clear hf2 hb2 hW2
      rw [HW2.out]
      go_loopw [8, 9] (fun vf vi W => ∃ i : Nat, i ≤ sv.length ∧ vi = .int .i64 i ∧ OwnN .i64 3 W w1.heap.size vf ((List.range i).filter wB) ∧ Below w.heap.size w W ∧ w1.heap.size ≤ W.heap.size) (fun _ vi _ => sv.length - (intOf vi).toNat)
      case atStart => exact ⟨0, by omega, rfl, HF2.out, HB2.out, by omega⟩
      case round =>
        obtain ⟨i, hi, rfl, hf, hB, hsz⟩ := hrel
        have HF := Lib.hid hf
        have HB := Lib.hid hB
        clear hf hB
        by_cases hlt : i < sv.length
        · have hd : decide ((i : Int) < sv.length) = true := decide_eq_true (by omega)
          obtain ⟨i0, hi0, hz0, hz1, hz2⟩ := info_parts info_bytes
          obtain ⟨ad, e, hadl, hcc⟩ := (HI.out.below HB.out).2 (by omega)
          subst e
          have hbE : Below wr.heap.size wr (wr.alloc (.cells #[] 29)) := (Below.refl _ _).alloc (Nat.le_refl _) _
          have hE : (wr.alloc (.cells #[] 29)).ownsRow wr.heap.size 29 1 (.slice (some ⟨wr.heap.size, 0, none⟩) 0 0) 0 [] := by
            have h := World.ownsRow_lit (base := wr.heap.size) (e := 29) (size := 1) wr #[] 0 (by simp) (by simp [maxLen]) (by simp)
            simpa using h
          have hsrc : ∀ j v, (sv.map sdv)[j]? = some v → (wr.alloc (.cells #[] 29)).cell? (ad.add j) = some v := fun j v hv => by
            have hj : j < sv.length := by
              rcases Nat.lt_or_ge j sv.length with h | h
              · exact h
              · rw [List.getElem?_eq_none (by simpa using h)] at hv; cases hv
            rw [hbE.cell (p := ad.add j) (by rw [add_blk]; exact hadl), hcc j hj]
            simp [hj] at hv
            rw [← hv]
            rfl
          have HE := Lib.hid hE
          have HBE := Lib.hid hbE
          have HSRC := Lib.hid hsrc
          have hone : ∀ u ∈ sv.map sdv, u.oneCell' = true := fun v hv => by obtain ⟨x, _, rfl⟩ := List.mem_map.1 hv; rfl
          have HONE := Lib.hid hone
          have ii0 : (0 : Int) ≤ (i : Int) := by omega
          have ii1 : (i : Int) < (sv.length : Int) := by omega
          clear hE hbE hsrc hone hcc
          obtain ⟨wo, rfl⟩ : ∃ wo : World, wo = wr := ⟨_, rfl⟩
          go_wp2_with (at_builtin; refine wpList_append_own_at (wo.alloc (.cells #[] 29)) rfl (.tmp 32) (.tmp 33) 22 rfl wo.heap.size 29 i0 (.slice none 0 0) 1 24 Try.underlying22 hi0 hz0 hz1 hz2 rfl (by decide) (.slice (some ⟨wo.heap.size, 0, none⟩) 0 0) 0 [] rfl HE.out ad sv.length c (sv.map sdv) rfl (by simp) HSRC.out HONE.out (by simp only [maxLen]; omega) (by omega) (by simp) ?_; intro v3 w3 ho3 hg3 _ _; rw [Nat.zero_add, List.nil_append] at ho3; obtain ⟨g3, cap3, rfl, hg3b, cur3, hh3⟩ := ownsRow_pos ho3 (by omega); obtain ⟨hsv3, hc3, hf3⟩ := row_facts i hlt ho3 hh3)
          have hb3 : Below wo.heap.size wo w3 := HBE.out.grown hg3 (by simp) (fun j ej => own_base HE.out j ej)
          have hb4 : Below wo.heap.size wo (w3.setCell ⟨g3, i, none⟩ (.slice none 0 0)) := hb3.setCell (p := ⟨g3, i, none⟩) hg3b _
          have hSV4 : SV (w3.setCell ⟨g3, i, none⟩ (.slice none 0 0)) (some ⟨g3, 0, none⟩) (sv.set i (none, 0, 0)) := hsv3.set i hlt (none, 0, 0)
          have hCs4 := ((HCS.out.below HB.out).below hb4).set i (none, 0, 0) [] HL.out ⟨RN.nil _ _, rfl, Nat.le_refl _⟩
          have hcall := H1.out (by first | rfl | trivial) (by first | rfl | trivial) i hlt (some ⟨g3, 0, none⟩) cap3 _ hSV4 hCs4
          have hof := HO.out (by first | rfl | trivial) (by first | rfl | trivial) i hlt
          obtain ⟨oi, hoi⟩ : ∃ oi, o1 i = oi := ⟨_, rfl⟩
          obtain ⟨ei, hei⟩ : ∃ ei, e1 i = ei := ⟨_, rfl⟩
          have hwi : wB i = (ei == 0 && decide (SameBut oi css i sv.length)) := by rw [← HWB.out]; simp only [hoi, hei]
          rw [hoi, hei] at hcall hof
          have hsc := filter_succ wB i
          have HCALL := Lib.hid hcall
          have HOF := Lib.hid hof
          have HWI := Lib.hid hwi
          have HSC := Lib.hid hsc
          have HB4 := Lib.hid hb4
          have hs4 := hb4.size
          clear hb3 hb4 hSV4 hCs4 hcall hof hoi hei hwi hsc ho3 hg3 hsv3 hc3 hf3 hh3
          refine HCALL.out.mono ?_
          rintro e w5 ⟨A5, c5, rfl, rr5, hb5⟩
          have hbw : Below wo.heap.size wo w5 := HB4.out.trans (hb5.mono hs4)
          have HF5 := Lib.hid (HF.out.kept hbw)
          have HB5 := Lib.hid (HB.out.trans (hbw.mono HB.out.size))
          have R5 := Lib.hid rr5
          have hs5 := hbw.size
          clear rr5 hb5 hbw HCALL HB4
          by_cases h1 : ei = 0
          · subst h1
            obtain ⟨hol, hob⟩ := HOF.out (by first | rfl | trivial)
            have HOB := Lib.hid hob
            have HOLN := Lib.hid hol
            have HI5 := Lib.hid (HI.out.below HB5.out)
            have HCS5 := Lib.hid (HCS.out.below HB5.out)
            clear hol hob
            go_wp2_with fail
            go_loopw [13, 14] (fun vs vj W => ∃ (j : Nat) (s : Bool), j ≤ sv.length ∧ vj = .int .i64 j ∧ vs = .bool s ∧ SBit oi css i j s ∧ Drawn0 w5 W) (fun _ vj _ => sv.length - (intOf vj).toNat)
            case atStart => exact ⟨0, true, by omega, rfl, rfl, SBit.start _ _ _, Drawn0.refl _⟩
            case round =>
              obtain ⟨j, s, hj, rfl, rfl, hss, hW⟩ := hrel
              have HSS := Lib.hid hss
              have HW := Lib.hid hW
              clear hss hW
              by_cases hjl : j < sv.length
              · have hdj : decide ((j : Int) < sv.length) = true := decide_eq_true (by omega)
                have hjo : j < oi.length := by rw [HOLN.out]; exact hjl
                obtain ⟨ld, A6, c6, e, q6, l6, r6⟩ := (R5.out.below HW.out.below).at j hjo
                subst e
                obtain ⟨ad2, e, hadl2, hcc⟩ := (HI5.out.below HW.out.below).2 (by omega)
                cases e
                have p6 := hcc j hjl
                obtain ⟨t6, t7, t8⟩ := (HCS5.out.below HW.out.below) j hjl
                have lx : ∀ y ∈ oi.getD j [], y < 256 := getD_bt HOB.out j
                have ly : ∀ y ∈ css.getD j [], y < 256 := getD_bt HB0.out j
                have hox : oi[j] = oi.getD j [] := by simp [List.getD_eq_getElem?_getD, hjo]
                have hstep := fun s2 h => HSS.out.succ (s2 := s2) h
                rw [hox] at q6 r6
                obtain ⟨xs, hxs⟩ : ∃ xs, oi.getD j [] = xs := ⟨_, rfl⟩
                obtain ⟨ys, hys⟩ : ∃ ys, css.getD j [] = ys := ⟨_, rfl⟩
                rw [hxs] at q6 r6 lx
                rw [hys] at t6 t7 ly
                simp only [hxs, hys] at hstep
                obtain ⟨⟨ya, yn, yc⟩, hy⟩ : ∃ x, sv[j] = x := ⟨_, rfl⟩
                rw [hy] at p6 t6 t7
                dsimp only at p6 t6 t7
                subst t7
                have u1 := fun n => RN.string (c := c6) Try.underlying29 Try.underlying5 Try.underlying9 (r6.drewN n)
                have u2 := fun n => RN.string (c := yc) Try.underlying29 Try.underlying5 Try.underlying9 (t6.drewN n)
                have q6' : ∀ n, (wr.drewN n).cell? (ld.add j) = some (.slice A6 xs.length c6) := fun _ => q6
                have p6' : ∀ n, (wr.drewN n).cell? (ad.add j) = some (.slice ya ys.length yc) := fun _ => p6
                have j0 : (0 : Int) ≤ (j : Int) := by omega
                have j1 : (j : Int) < (sv.length : Int) := by omega
                have j2 : (j : Int) < (oi.length : Int) := by omega
                have HST := Lib.hid hstep
                have LX := Lib.hid lx
                have LY := Lib.hid ly
                clear hcc lx ly hox hstep hxs hys hy q6 p6 r6 t6 t8 l6 hjo
                cases s with
                | false =>
                  have HX2 := Lib.hid (HST.out false (by simp))
                  go_wp2_with fail
                  go_quiet (fail)
                  go_wp2_with fail
                  exact ⟨⟨j + 1, false, by omega, by go_num, rfl, HX2.out, HW.out.step _⟩, by simp [intOf]; omega⟩
                | true =>
                  by_cases hji : j = i
                  · have dji : ((j : Int) == i) = true := by simp [hji]
                    have HX2 := Lib.hid (HST.out true (by simp [hji]))
                    clear hji
                    go_wp2_with fail
                    go_quiet (fail)
                    go_wp2_with fail
                    exact ⟨⟨j + 1, true, by omega, by go_num, rfl, HX2.out, HW.out.step _⟩, by simp [intOf]; omega⟩
                  · have dji : ((j : Int) == i) = false := by simp; omega
                    by_cases hxy : xs = ys
                    · subst hxy
                      have HX2 := Lib.hid (HST.out true (by simp))
                      clear hji
                      go_wp2_with fail
                      go_quiet (fail)
                      go_wp2_with fail
                      exact ⟨⟨j + 1, true, by omega, by go_num, rfl, HX2.out, HW.out.step _⟩, by simp [intOf]; omega⟩
                    · have hn : ¬ strN xs = strN ys := fun e => hxy (strN_inj LX.out LY.out e)
                      have hn2 : ¬ (strN xs).toList = (strN ys).toList := fun e => hn (by
                        unfold strN at e ⊢
                        rw [Go.Lib.strOfNums_toList, Go.Lib.strOfNums_toList] at e
                        exact congrArg (fun l : List UInt8 => (⟨l.toArray⟩ : ByteArray)) e)
                      have hn3 : ((strN xs).toList == (strN ys).toList) = false := by simp [hn2]
                      have HX2 := Lib.hid (HST.out false (by simp [hji, hxy]))
                      clear hji hxy
                      go_wp2_with fail
                      go_quiet (fail)
                      go_wp2_with fail
                      exact ⟨⟨j + 1, false, by omega, by go_num, rfl, HX2.out, HW.out.step _⟩, by simp [intOf]; omega⟩
              · have hdj : decide ((j : Int) < sv.length) = false := decide_eq_false (by omega)
                obtain rfl : j = sv.length := by omega
                have hB6 : Below w.heap.size w wr := HB5.out.trans (HW.out.below.mono HB5.out.size)
                have hF6 := HF5.out.kept HW.out.below
                have hz6 : w1.heap.size ≤ wr.heap.size := by have := HW.out.below.size; omega
                have hfl : ((List.range i).filter wB).length ≤ i := by
                  have := List.length_filter_le wB (List.range i)
                  rw [List.length_range] at this
                  exact this
                have hl6 : (((List.range i).filter wB).length + 1) * 8 ≤ 140737488355328 := by omega
                have hb61 : Below w1.heap.size wr wr := Below.refl _ _
                cases s with
                | true =>
                  have hwt : wB i = true := by rw [HWI.out]; simp; exact HSS.out.1 rfl
                  have hnext : (List.range (i + 1)).filter wB = (List.range i).filter wB ++ [i] := by rw [HSC.out, hwt]; simp
                  have HNX := Lib.hid hnext
                  have HB6 := Lib.hid hB6
                  have HF6 := Lib.hid hF6
                  have HL6 := Lib.hid hl6
                  have HB61 := Lib.hid hb61
                  obtain ⟨F, hF⟩ : ∃ F, (List.range i).filter wB = F := ⟨_, rfl⟩
                  rw [hF] at HF6 HL6 HNX
                  obtain ⟨wz, rfl⟩ : ∃ wz : World, wz = wr := ⟨_, rfl⟩
                  clear hwt hnext hB6 hF6 hl6 hfl hb61 hF
                  go_wp2_with (at_builtin; refine append_N (w0 := wz) w1.heap.size rfl (.tmp 72) (.tmp 74) 46 3 .i64 8 rfl Try.underlying46 info_int (by decide) u8 F i rfl wz.heap.size rfl rfl HF6.out HB61.out hz6 HL6.out ?_; intro v7 w7 ho7 hb7)
                  exact ⟨⟨i + 1, by omega, by go_num, by rw [HNX.out]; exact ho7, HB6.out.trans (hb7.mono HB1.out.size), by have := hb7.size; omega⟩, by simp [intOf]; omega⟩
                | false =>
                  have hwf : wB i = false := by
                    rw [HWI.out]
                    simp
                    exact fun e => by have := HSS.out.2 e; cases this
                  have hnext : (List.range (i + 1)).filter wB = (List.range i).filter wB := by rw [HSC.out, hwf]; simp
                  have HNX := Lib.hid hnext
                  have HB6 := Lib.hid hB6
                  have HF6 := Lib.hid hF6
                  clear hwf hnext hB6 hF6 hl6 hfl hb61
                  go_wp2_with fail
                  exact ⟨⟨i + 1, by omega, by go_num, by rw [HNX.out]; exact HF6.out, HB6.out, hz6⟩, by simp [intOf]; omega⟩
          · have hne : (ei != 0) = true := by simp [h1]
            have hwf : wB i = false := by rw [HWI.out]; simp [h1]
            have hnext : (List.range (i + 1)).filter wB = (List.range i).filter wB := by rw [HSC.out, hwf]; simp
            have HNX := Lib.hid hnext
            clear hnext hwf
            go_wp2_with fail
            exact ⟨⟨i + 1, by omega, by go_num, by rw [HNX.out]; exact HF5.out, HB5.out, by omega⟩, by simp [intOf]; omega⟩
        · have hd : decide ((i : Int) < sv.length) = false := decide_eq_false (by omega)
          obtain rfl : i = sv.length := by omega
          obtain ⟨Af, cf, rfl, hcf, rf⟩ := HF.out.reads
          obtain ⟨F, hF⟩ : ∃ F, (List.range sv.length).filter wB = F := ⟨_, rfl⟩
          rw [hF] at rf hcf ⊢
          have hFl : F.length ≤ sv.length := by
            have := List.length_filter_le wB (List.range sv.length)
            rw [hF, List.length_range] at this
            exact this
          by_cases h1 : F.length = 1
          · obtain ⟨x, hx⟩ : ∃ x, F = [x] := by
              match F, h1 with
              | [x], _ => exact ⟨x, rfl⟩
            have hl : lv = ((x : Int), 0) := by
              rw [← HLV.out]
              unfold locV
              rw [if_neg (by simp), if_neg (by simp), hF, hx]
            subst hx
            obtain ⟨fd, e, hfx⟩ := rf.at 0 (by simp)
            subst e
            rw [show fd.add 0 = fd by unfold Addr.add; simp] at hfx
            have HLL := Lib.hid hl
            simp only [List.getElem_cons_zero, List.length_singleton] at hfx hcf ⊢
            clear hl hF rf h1 hFl HF
            go_wp2_with fail
            go_ret2
            rw [HLL.out]
            exact ⟨rfl, HB.out⟩
          · have hne : ((F.length : Int) != 1) = true := by simp; omega
            have hl : lv = (0, 13) := by
              rw [← HLV.out]
              unfold locV
              rw [if_neg (by simp), if_neg (by simp), hF]
              match F, h1 with
              | [], _ => rfl
              | [x], h => exact absurd rfl h
              | x :: y :: r, _ => rfl
            have HLL := Lib.hid hl
            clear hl hF rf HF
            go_wp2_with fail
            go_ret2
            rw [HLL.out]
            exact ⟨rfl, HB.out⟩
  · have hne : (er != 0) = true := by simp [h0]
    have hl : lv = (0, er) := by rw [← HLV.out]; simp [locV, h0]
    go_wp2_with fail
    go_ret2
    rw [hl]
    exact ⟨rfl, HB1.out⟩
end Go.Proofs.Ytdmfecaejdiihaa.F
