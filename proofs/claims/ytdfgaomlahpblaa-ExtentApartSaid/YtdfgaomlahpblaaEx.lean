/- A deed on both maps; do both tell the same. -/
import Derived.Test.YtdfgaomlahpblaaEw
set_option linter.unusedVariables false
set_option linter.unusedSimpArgs false
namespace Go.Proofs.Ytdfgaomlahpblaa.F
open Go.RowKit Go.Proofs.YtdfgaomlahpblaaW.PrintWords

/-- Both maps in a world, alike. -/
def XY (W : World) (base bx byy f : Nat) (T : List Bool) (l : List Rn) : Prop := EM W base bx f (f + T.length) l ∧ EY W byy f T ∧ Rel f T l ∧ base ≤ W.heap.size
theorem EY.other {W W' : World} {b bx f f' t base : Nat} {T : List Bool} {l : List Rn} (h : EY W b f T) (hx : EM W base bx f' t l) (hg : Gr (fun k => k = bx) W W') : EY W' b f T := by
  obtain ⟨v, hm, _⟩ := hx
  refine h.move (fun g cs t' x ht hh => hg.block g (Array.getElem?_eq_some_iff.1 hh).1 (fun e => ?_))
  subst e
  rw [show W.heap[g]? = _ from hm] at hh
  injection hh with hh
  injection hh with _ h2 _
  rcases ht with ht | ⟨ht, _⟩ <;> (rw [ht] at h2; exact absurd h2 (by decide))
theorem EM.other {W W' : World} {b byy f f' t base : Nat} {T : List Bool} {l : List Rn} (h : EM W base b f t l) (hy : EY W byy f' T) (hg : Gr (fun k => k = byy) W W') : EM W' base b f t l := by
  obtain ⟨A, c, hm, _⟩ := hy
  have hne : ∀ k cs, W.heap[k]? = some (Obj.cells cs 38 (0, 0)) → k ≠ byy := fun k cs hh e => by
    subst e
    rw [hm] at hh
    injection hh with hh
    injection hh with _ h2 _
    exact absurd h2 (by decide)
  obtain ⟨v, h1, h2, h3⟩ := h
  refine ⟨v, h1.move (hg.block b h1.lt (fun e => ?_)), h2.move (fun k hk => ?_), h3⟩
  · have h1' : W.heap[b]? = some (Obj.cells _ _ _) := h1
    rw [e, hm] at h1'
    injection h1' with hh
    injection hh with _ h2 _
    exact absurd h2 (by decide)
  · obtain ⟨_, q2, cs, q3⟩ := h2.typed k hk
    exact hg.block k q2 (hne k cs q3)
theorem EM.ne {W : World} {b byy f f' t base : Nat} {T : List Bool} {l : List Rn} (h : EM W base b f t l) (hy : EY W byy f' T) : b ≠ byy := fun e => by
  obtain ⟨A, c, hm, _⟩ := hy
  obtain ⟨v, h1, _⟩ := h
  have h1' : W.heap[b]? = some (Obj.cells _ _ _) := h1
  rw [e, hm] at h1'
  injection h1' with hh
  injection hh with _ h2 _
  exact absurd h2 (by decide)
theorem XY.below {W W' : World} {base bx byy f : Nat} {T : List Bool} {l : List Rn} (h : XY W base bx byy f T l) (hb : Below W.heap.size W W') : XY W' base bx byy f T l :=
  ⟨h.1.below hb, h.2.1.below hb, h.2.2.1, Nat.le_trans h.2.2.2 hb.size⟩
theorem Rel.small {f : Nat} {T : List Bool} {l : List Rn} (h : Rel f T l) (hft : f + T.length ≤ 4096) : (∀ r ∈ l, r.1 + r.2 ≤ 4096) ∧ (∀ r ∈ l, r.2 ≤ 4096) ∧ l.length ≤ 4096 :=
  ⟨fun r hr => by have := h.bd r hr; omega, fun r hr => by have := h.bd r hr; omega, by have := h.len; omega⟩
/-- Behind a deed. -/
def DoAns (base bx byy f len : Nat) (w : World) (e : Ending) (w' : World) : Prop := e = .returned (.bool true) ∧ ∃ T l, T.length = len ∧ XY w' base bx byy f T l ∧ Gr (fun k => k = bx ∨ k = byy) w w'
set_option maxRecDepth 20000 in
set_option maxHeartbeats 8000000 in
theorem do_c (base bx byy f : Nat) (T : List Bool) (l : List Rn) (d a n : Int) (w : World) (h : XY w base bx byy f T l) (hft : f + T.length ≤ 4096) (ha : -9223372036854775808 ≤ a ∧ a ≤ 9223372036854775807) :
    Calls Try.prog 21 #[.pointer (some ⟨bx, 0, none⟩), .pointer (some ⟨byy, 0, none⟩), .agg #[.int .i64 d, .int .i64 a, .int .i64 n]] w (DoAns base bx byy f T.length w) := by
  obtain ⟨hx, hy, hrel, hbs⟩ := h
  obtain ⟨hr1, hr2, hr3⟩ := hrel.small hft
  have hbox : Below w.heap.size w (w.alloc (.cells #[.int .i64 d, .int .i64 a, .int .i64 n] 54)) := (Below.refl _ _).alloc (Nat.le_refl _) _
  have hgn : (w.alloc (.cells #[.int .i64 d, .int .i64 a, .int .i64 n] 54)).heap[w.heap.size]? = some (.cells #[.int .i64 d, .int .i64 a, .int .i64 n] 54 (0, 0)) := heap_alloc_new w _
  have hx1 := hx.below hbox
  have hy1 := hy.below hbox
  have hltx := hx.lt
  have hlty := hy.lt
  obtain ⟨W1, hW1⟩ : ∃ W1, w.alloc (.cells #[.int .i64 d, .int .i64 a, .int .i64 n] 54) = W1 := ⟨_, rfl⟩
  rw [hW1] at hbox hgn hx1 hy1
  have hs1 : W1.heap.size = w.heap.size + 1 := by rw [← hW1]; simp
  have k0 : W1.cell? ⟨w.heap.size, 0, none⟩ = some (.int .i64 d) := by rw [cell_of_row _ _ _ _ _ _ hgn]; rfl
  have k1 : W1.cell? ⟨w.heap.size, 1, none⟩ = some (.int .i64 a) := by rw [cell_of_row _ _ _ _ _ _ hgn]; rfl
  have k2 : W1.cell? ⟨w.heap.size, 2, none⟩ = some (.int .i64 n) := by rw [cell_of_row _ _ _ _ _ _ hgn]; rfl
  have HW1 := Lib.hid hW1
  have HX1 := Lib.hid hx1
  have HY1 := Lib.hid hy1
  have HB := Lib.hid hbox
  have HREL := Lib.hid hrel
  have HR1 := Lib.hid hr1
  clear hx hy hx1 hy1 hbox hgn hW1 hrel hr1
  by_cases h0 : d = 0
  · have e0 : (d == 0) = true := by simp [h0]
    obtain ⟨s1, s2, s3, s4⟩ := take_same HREL.out n
    have htk := Take_c base bx f (f + T.length) l n W1 HX1.out (by omega) HR1.out (by omega)
    have htr := fun W (h : EY W byy f T) => Take_r byy f T n W h (by omega) (by omega)
    obtain ⟨x, hxx⟩ : ∃ x, takeF l n = x := ⟨_, rfl⟩
    obtain ⟨y, hyy⟩ : ∃ y, takeR f T n = y := ⟨_, rfl⟩
    rw [hxx] at htk
    simp only [hyy] at htr
    rw [hxx, hyy] at s1 s2 s4
    rw [hyy] at s3
    obtain ⟨x1, x2, x3⟩ := x
    obtain ⟨y1, y2, y3⟩ := y
    dsimp only at s1 s2 s3 s4
    subst s1 s2
    have HTK := Lib.hid htk
    have HTR := Lib.hid htr
    have HS3 := Lib.hid s3
    have HS4 := Lib.hid s4
    clear htk htr hxx hyy s3 s4 h0
    go_enter Try.func21, Try.ntmps21
    go_wp2_with fail
    rw [HW1.out]
    refine HTK.out.mono ?_
    rintro e w2 ⟨rfl, hx2, hg2⟩
    have hy2 := HY1.out.other HX1.out hg2
    have k22 : w2.cell? ⟨w.heap.size, 2, none⟩ = some (.int .i64 n) := (cell_move (a := ⟨w.heap.size, 2, none⟩) (hg2.block w.heap.size (by omega) (by omega))).trans k2
    have HX2 := Lib.hid hx2
    have HY2 := Lib.hid hy2
    have HG2 := Lib.hid hg2
    clear hx2 hy2 hg2 k0 k1 k2
    go_wp2_with fail
    refine (HTR.out w2 HY2.out).mono ?_
    rintro e w3 ⟨rfl, hy3, hg3⟩
    have hx3 := HX2.out.other HY2.out hg3
    have hgg : Gr (fun k => k = bx ∨ k = byy) w w3 := ((Gr.of_below (fun k => k = bx ∨ k = byy) HB.out).trans HG2.out (fun _ _ h => .inl h)).trans hg3 (fun _ _ h => .inr h)
    have hxy : XY w3 base bx byy f y3 x3 := ⟨by rw [HS3.out]; exact hx3, hy3, HS4.out, by have := hgg.size; omega⟩
    have HXY := Lib.hid hxy
    have HGG := Lib.hid hgg
    clear hy3 hg3 hx3 hgg hxy
    go_wp2_with fail
    go_ret
    exact ⟨by simp, y3, x3, HS3.out, HXY.out, HGG.out⟩
  · have e0 : (d == 0) = false := by simp [h0]
    by_cases h1 : d = 1
    · have e1 : (d == 1) = true := by simp [h1]
      obtain ⟨s1, s3, s4⟩ := claim_same HREL.out a n
      have htk := fun W (h : EM W base bx f (f + T.length) l) hb => Claim_c base bx f (f + T.length) l a n W h hb HR1.out (by omega) (by omega) ha
      have htr := fun W (h : EY W byy f T) => Claim_r byy f T a n W h (by omega) (by omega) ha
      obtain ⟨x, hxx⟩ : ∃ x, claimF f (f + T.length) l a n = x := ⟨_, rfl⟩
      obtain ⟨y, hyy⟩ : ∃ y, claimR f T a n = y := ⟨_, rfl⟩
      simp only [hxx] at htk
      simp only [hyy] at htr
      rw [hxx, hyy] at s1 s4
      rw [hyy] at s3
      obtain ⟨x1, x3⟩ := x
      obtain ⟨y1, y3⟩ := y
      dsimp only at s1 s3 s4
      subst s1
      have HTK := Lib.hid htk
      have HTR := Lib.hid htr
      have HS3 := Lib.hid s3
      have HS4 := Lib.hid s4
      have HBS := Lib.hid hbs
      clear htk htr hxx hyy s3 s4 h0 h1
      go_enter Try.func21, Try.ntmps21
      go_wp2_with fail
      rw [HW1.out]
      refine wp_region_late [2, 6] (fun w' => w'.cell? ⟨w.heap.size, 1, none⟩ = some (.int .i64 a) ∧ w'.cell? ⟨w.heap.size, 2, none⟩ = some (.int .i64 n)) (by kernel_rfl) ⟨k1, k2⟩ (fun hT => ?_)
      refine WL.take (i := 0) (v := ?_) rfl (by kernel_rfl) (by kernel_rfl) (by kernel_rfl) (by kernel_rfl) (fun _ _ _ h => h) (Or.inl ⟨by rfl, ?_⟩) (by assumption) ?_
      rotate_left 1
      · (intro w' hSw; (try (replace hSw := hSw (by decide); dsimp only at hSw)); go_split_ands; go_simp; try with_reducible rfl)
      simp only [Act.put, List.setIfInBounds_toArray, List.set_cons_zero, List.set_cons_succ]
      refine WL.take (i := 1) (v := ?_) rfl (by kernel_rfl) (by kernel_rfl) (by kernel_rfl) (by kernel_rfl) (fun _ _ _ h => h) (Or.inl ⟨by rfl, ?_⟩) (by assumption) ?_
      rotate_left 1
      · (intro w' hSw; (try (replace hSw := hSw (by decide); dsimp only at hSw)); go_split_ands; go_simp; try with_reducible rfl)
      simp only [Act.put, List.setIfInBounds_toArray, List.set_cons_zero, List.set_cons_succ]
      refine WL.take (i := 2) (v := ?_) rfl (by kernel_rfl) (by kernel_rfl) (by kernel_rfl) (by kernel_rfl) (fun _ _ _ h => h) (Or.inl ⟨by rfl, ?_⟩) (by assumption) ?_
      rotate_left 1
      · (intro w' hSw; (try (replace hSw := hSw (by decide); dsimp only at hSw)); go_split_ands; go_simp; try with_reducible rfl)
      simp only [Act.put, List.setIfInBounds_toArray, List.set_cons_zero, List.set_cons_succ]
      refine WL.take (i := 4) (v := ?_) rfl (by kernel_rfl) (by kernel_rfl) (by kernel_rfl) (by kernel_rfl) (fun _ _ _ h => h) (Or.inl ⟨by rfl, ?_⟩) (by assumption) ?_
      rotate_left 1
      · (intro w' hSw; (try (replace hSw := hSw (by decide); dsimp only at hSw)); go_split_ands; go_simp; try with_reducible rfl)
      simp only [Act.put, List.setIfInBounds_toArray, List.set_cons_zero, List.set_cons_succ]
      refine WL.take (i := 5) (v := ?_) rfl (by kernel_rfl) (by kernel_rfl) (by kernel_rfl) (by kernel_rfl) (fun _ _ _ h => h) (Or.inl ⟨by rfl, ?_⟩) (by assumption) ?_
      rotate_left 1
      · (intro w' hSw; (try (replace hSw := hSw (by decide); dsimp only at hSw)); go_split_ands; go_simp; try with_reducible rfl)
      simp only [Act.put, List.setIfInBounds_toArray, List.set_cons_zero, List.set_cons_succ]
      refine WL.take (i := 6) (v := ?_) rfl (by kernel_rfl) (by kernel_rfl) (by kernel_rfl) (by kernel_rfl) (fun _ _ _ h => h) (Or.inl ⟨by rfl, ?_⟩) (by assumption) ?_
      rotate_left 1
      · (intro w' hSw; (try (replace hSw := hSw (by decide); dsimp only at hSw)); go_split_ands; go_simp; try with_reducible rfl)
      simp only [Act.put, List.setIfInBounds_toArray, List.set_cons_zero, List.set_cons_succ]
      refine WL.one (i := 3) (by kernel_rfl) rfl (fun K hK => ?_)
      go_simp
      go_at_call 22
      refine (HTK.out W1.drew (HX1.out.move (fun _ _ _ => rfl)) (by have := HBS.out; simp; omega)).mono ?_
      rintro e w2 ⟨rfl, hx2, hg2⟩
      replace hg2 : Gr (fun k => k = bx) W1 w2 := ⟨hg2.os, hg2.tape, hg2.output, hg2.size, hg2.block⟩
      have hy2 := HY1.out.other HX1.out hg2
      have hT2 : w2.cell? ⟨w.heap.size, 1, none⟩ = some (.int .i64 a) ∧ w2.cell? ⟨w.heap.size, 2, none⟩ = some (.int .i64 n) :=
        ⟨(cell_move (a := ⟨w.heap.size, 1, none⟩) (hg2.block w.heap.size (by omega) (by omega))).trans k1, (cell_move (a := ⟨w.heap.size, 2, none⟩) (hg2.block w.heap.size (by omega) (by omega))).trans k2⟩
      have HX2 := Lib.hid hx2
      have HY2 := Lib.hid hy2
      have HG2 := Lib.hid hg2
      clear hx2 hy2 hg2
      go_simp
      refine hK.out _ _ (fun _ => hT2) ?_
      clear hK K hT2
      refine WL.late (i := 7) (by kernel_rfl) rfl (by kernel_rfl) (fun K hK => ?_)
      go_simp
      go_at_call 38
      refine (HTR.out w2 HY2.out).mono ?_
      rintro e w3 ⟨rfl, hy3, hg3⟩
      have hx3 := HX2.out.other HY2.out hg3
      have hgg : Gr (fun k => k = bx ∨ k = byy) w w3 := ((Gr.of_below (fun k => k = bx ∨ k = byy) HB.out).trans HG2.out (fun _ _ h => .inl h)).trans hg3 (fun _ _ h => .inr h)
      have hxy : XY w3 base bx byy f y3 x3 := ⟨by rw [HS3.out]; exact hx3, hy3, HS4.out, by have := hgg.size; have := HBS.out; omega⟩
      have HXY := Lib.hid hxy
      have HGG := Lib.hid hgg
      clear hy3 hg3 hx3 hgg hxy
      go_simp
      refine hK.out _ _ ?_
      clear hK K
      refine WL.late (i := 8) (by kernel_rfl) rfl (by kernel_rfl) (fun K hK => ?_)
      go_simp
      refine hK.out _ _ ?_
      clear hK K
      refine WL.late (i := 9) (by kernel_rfl) rfl (by kernel_rfl) (fun K hK => ?_)
      go_simp
      refine hK.out _ _ ?_
      clear hK K
      refine WL.done (by kernel_rfl) ?_ _
      go_wp2_with fail
      go_ret
      exact ⟨by simp, y3, x3, HS3.out, HXY.out, HGG.out⟩
    · have e1 : (d == 1) = false := by simp [h1]
      obtain ⟨s1, s3, s4⟩ := give_same HREL.out a n
      have htk := fun W (h : EM W base bx f (f + T.length) l) hb => Give_c base bx f (f + T.length) l a n W h hb HREL.out.1 HR1.out (by omega) (by omega) ha
      have htr := fun W (h : EY W byy f T) => Give_r byy f T a n W h (by omega) (by omega) ha
      obtain ⟨x, hxx⟩ : ∃ x, giveF f (f + T.length) l a n = x := ⟨_, rfl⟩
      obtain ⟨y, hyy⟩ : ∃ y, giveR f T a n = y := ⟨_, rfl⟩
      simp only [hxx] at htk
      simp only [hyy] at htr
      rw [hxx, hyy] at s1 s4
      rw [hyy] at s3
      obtain ⟨x1, x3⟩ := x
      obtain ⟨y1, y3⟩ := y
      dsimp only at s1 s3 s4
      subst s1
      have HTK := Lib.hid htk
      have HTR := Lib.hid htr
      have HS3 := Lib.hid s3
      have HS4 := Lib.hid s4
      have HBS := Lib.hid hbs
      clear htk htr hxx hyy s3 s4 h0 h1
      go_enter Try.func21, Try.ntmps21
      go_wp2_with fail
      rw [HW1.out]
      refine wp_region_late [2, 6] (fun w' => w'.cell? ⟨w.heap.size, 1, none⟩ = some (.int .i64 a) ∧ w'.cell? ⟨w.heap.size, 2, none⟩ = some (.int .i64 n)) (by kernel_rfl) ⟨k1, k2⟩ (fun hT => ?_)
      refine WL.take (i := 0) (v := ?_) rfl (by kernel_rfl) (by kernel_rfl) (by kernel_rfl) (by kernel_rfl) (fun _ _ _ h => h) (Or.inl ⟨by rfl, ?_⟩) (by assumption) ?_
      rotate_left 1
      · (intro w' hSw; (try (replace hSw := hSw (by decide); dsimp only at hSw)); go_split_ands; go_simp; try with_reducible rfl)
      simp only [Act.put, List.setIfInBounds_toArray, List.set_cons_zero, List.set_cons_succ]
      refine WL.take (i := 1) (v := ?_) rfl (by kernel_rfl) (by kernel_rfl) (by kernel_rfl) (by kernel_rfl) (fun _ _ _ h => h) (Or.inl ⟨by rfl, ?_⟩) (by assumption) ?_
      rotate_left 1
      · (intro w' hSw; (try (replace hSw := hSw (by decide); dsimp only at hSw)); go_split_ands; go_simp; try with_reducible rfl)
      simp only [Act.put, List.setIfInBounds_toArray, List.set_cons_zero, List.set_cons_succ]
      refine WL.take (i := 2) (v := ?_) rfl (by kernel_rfl) (by kernel_rfl) (by kernel_rfl) (by kernel_rfl) (fun _ _ _ h => h) (Or.inl ⟨by rfl, ?_⟩) (by assumption) ?_
      rotate_left 1
      · (intro w' hSw; (try (replace hSw := hSw (by decide); dsimp only at hSw)); go_split_ands; go_simp; try with_reducible rfl)
      simp only [Act.put, List.setIfInBounds_toArray, List.set_cons_zero, List.set_cons_succ]
      refine WL.take (i := 4) (v := ?_) rfl (by kernel_rfl) (by kernel_rfl) (by kernel_rfl) (by kernel_rfl) (fun _ _ _ h => h) (Or.inl ⟨by rfl, ?_⟩) (by assumption) ?_
      rotate_left 1
      · (intro w' hSw; (try (replace hSw := hSw (by decide); dsimp only at hSw)); go_split_ands; go_simp; try with_reducible rfl)
      simp only [Act.put, List.setIfInBounds_toArray, List.set_cons_zero, List.set_cons_succ]
      refine WL.take (i := 5) (v := ?_) rfl (by kernel_rfl) (by kernel_rfl) (by kernel_rfl) (by kernel_rfl) (fun _ _ _ h => h) (Or.inl ⟨by rfl, ?_⟩) (by assumption) ?_
      rotate_left 1
      · (intro w' hSw; (try (replace hSw := hSw (by decide); dsimp only at hSw)); go_split_ands; go_simp; try with_reducible rfl)
      simp only [Act.put, List.setIfInBounds_toArray, List.set_cons_zero, List.set_cons_succ]
      refine WL.take (i := 6) (v := ?_) rfl (by kernel_rfl) (by kernel_rfl) (by kernel_rfl) (by kernel_rfl) (fun _ _ _ h => h) (Or.inl ⟨by rfl, ?_⟩) (by assumption) ?_
      rotate_left 1
      · (intro w' hSw; (try (replace hSw := hSw (by decide); dsimp only at hSw)); go_split_ands; go_simp; try with_reducible rfl)
      simp only [Act.put, List.setIfInBounds_toArray, List.set_cons_zero, List.set_cons_succ]
      refine WL.one (i := 3) (by kernel_rfl) rfl (fun K hK => ?_)
      go_simp
      go_at_call 14
      refine (HTK.out W1.drew (HX1.out.move (fun _ _ _ => rfl)) (by have := HBS.out; simp; omega)).mono ?_
      rintro e w2 ⟨rfl, hx2, hg2⟩
      replace hg2 : Gr (fun k => k = bx) W1 w2 := ⟨hg2.os, hg2.tape, hg2.output, hg2.size, hg2.block⟩
      have hy2 := HY1.out.other HX1.out hg2
      have hT2 : w2.cell? ⟨w.heap.size, 1, none⟩ = some (.int .i64 a) ∧ w2.cell? ⟨w.heap.size, 2, none⟩ = some (.int .i64 n) :=
        ⟨(cell_move (a := ⟨w.heap.size, 1, none⟩) (hg2.block w.heap.size (by omega) (by omega))).trans k1, (cell_move (a := ⟨w.heap.size, 2, none⟩) (hg2.block w.heap.size (by omega) (by omega))).trans k2⟩
      have HX2 := Lib.hid hx2
      have HY2 := Lib.hid hy2
      have HG2 := Lib.hid hg2
      clear hx2 hy2 hg2
      go_simp
      refine hK.out _ _ (fun _ => hT2) ?_
      clear hK K hT2
      refine WL.late (i := 7) (by kernel_rfl) rfl (by kernel_rfl) (fun K hK => ?_)
      go_simp
      go_at_call 39
      refine (HTR.out w2 HY2.out).mono ?_
      rintro e w3 ⟨rfl, hy3, hg3⟩
      have hx3 := HX2.out.other HY2.out hg3
      have hgg : Gr (fun k => k = bx ∨ k = byy) w w3 := ((Gr.of_below (fun k => k = bx ∨ k = byy) HB.out).trans HG2.out (fun _ _ h => .inl h)).trans hg3 (fun _ _ h => .inr h)
      have hxy : XY w3 base bx byy f y3 x3 := ⟨by rw [HS3.out]; exact hx3, hy3, HS4.out, by have := hgg.size; have := HBS.out; omega⟩
      have HXY := Lib.hid hxy
      have HGG := Lib.hid hgg
      clear hy3 hg3 hx3 hgg hxy
      go_simp
      refine hK.out _ _ ?_
      clear hK K
      refine WL.late (i := 8) (by kernel_rfl) rfl (by kernel_rfl) (fun K hK => ?_)
      go_simp
      refine hK.out _ _ ?_
      clear hK K
      refine WL.late (i := 9) (by kernel_rfl) rfl (by kernel_rfl) (fun K hK => ?_)
      go_simp
      refine hK.out _ _ ?_
      clear hK K
      refine WL.done (by kernel_rfl) ?_ _
      go_wp2_with fail
      go_ret
      exact ⟨by simp, y3, x3, HS3.out, HXY.out, HGG.out⟩
end Go.Proofs.Ytdfgaomlahpblaa.F
