/- Maps are made; runs are taken and claimed. -/
import Derived.Test.YtdfgaomlahpblaaEj
set_option linter.unusedVariables false
set_option linter.unusedSimpArgs false
namespace Go.Proofs.Ytdfgaomlahpblaa.F
open Go.RowKit Go.Proofs.YtdfgaomlahpblaaW.PrintWords

theorem EM.lower {W : World} {base base' b f t : Nat} {l : List Rn} (h : EM W base b f t l) (hb : base' ≤ base) : EM W base' b f t l := by
  obtain ⟨v, h1, h2, h3⟩ := h
  exact ⟨v, h1, h2.lower hb, h3⟩
theorem EM.move {W W' : World} {base b f t : Nat} {l : List Rn} (h : EM W base b f t l) (hm : ∀ k, k < W.heap.size → (k = b ∨ (base ≤ k ∧ ∃ cs, W.heap[k]? = some (.cells cs 38 (0, 0)))) → W'.heap[k]? = W.heap[k]?) : EM W' base b f t l := by
  obtain ⟨v, h1, h2, h3⟩ := h
  exact ⟨v, h1.move (hm b h1.lt (.inl rfl)), h2.move (fun k hk => by
    obtain ⟨q1, q2, q3⟩ := h2.typed k hk
    exact hm k q2 (.inr ⟨q1, q3⟩)), h3⟩
theorem EM.below {W W' : World} {base b f t : Nat} {l : List Rn} (h : EM W base b f t l) (hb : Below W.heap.size W W') : EM W' base b f t l := h.move (fun k hk _ => hb.block k hk)
theorem EM.lt {W : World} {base b f t : Nat} {l : List Rn} (h : EM W base b f t l) : b < W.heap.size := by obtain ⟨v, h1, _⟩ := h; exact h1.lt
set_option maxRecDepth 20000 in
set_option maxHeartbeats 4000000 in
theorem New_c (f t : Nat) (w : World) (h : f ≤ t) (ht : t ≤ 4096) :
    Calls Try.prog 8 #[.int .i64 f, .int .i64 t] w fun e w' => ∃ b, e = .returned (.tuple #[.pointer (some ⟨b, 0, none⟩), .int .i64 0]) ∧ w.heap.size ≤ b ∧ EM w' w.heap.size b f t (if 0 < t - f then [(f, t - f)] else []) ∧ Below w.heap.size w w' := by
  have d1 : decide ((f : Int) < 0) = false := decide_eq_false (by omega)
  have d2 : decide ((t : Int) < f) = false := decide_eq_false (by omega)
  have d2' : decide (t < f) = false := decide_eq_false (by omega)
  have d3 : decide ((4096 : Int) < t) = false := decide_eq_false (by omega)
  by_cases hlt : f < t
  · have d4 : decide ((f : Int) < t) = true := decide_eq_true (by omega)
    have d4' : decide (f < t) = true := decide_eq_true hlt
    rw [if_pos (by omega)]
    have hem : EM ((w.alloc (.cells #[.int .i64 (f : Nat), .int .i64 (t : Nat), .slice (some ⟨w.heap.size + 1, 0, none⟩) 1 1] 57)).alloc (.cells #[.int .i64 (f : Nat), .int .i64 ((t : Int) - f)] 38)) w.heap.size w.heap.size f t [(f, t - f)] := by
      have hg := heap_alloc_new (w.alloc (.cells #[.int .i64 (f : Nat), .int .i64 (t : Nat), .slice (some ⟨w.heap.size + 1, 0, none⟩) 1 1] 57)) (.cells #[.int .i64 (f : Nat), .int .i64 ((t : Int) - f)] 38)
      simp only [World.size_alloc] at hg
      exact ⟨_, (Below.heap_alloc _ _ _ (by simp)).trans (heap_alloc_new w _), OR.of_block (cur := [.int .i64 (f : Nat), .int .i64 ((t : Int) - f)]) hg (by omega) rfl (Nat.le_refl _) (by omega) rfl (by simp [flatR]; omega), fun h => by cases h⟩
    have hb : Below w.heap.size w ((w.alloc (.cells #[.int .i64 (f : Nat), .int .i64 (t : Nat), .slice (some ⟨w.heap.size + 1, 0, none⟩) 1 1] 57)).alloc (.cells #[.int .i64 (f : Nat), .int .i64 ((t : Int) - f)] 38)) :=
      ((Below.refl _ _).alloc (Nat.le_refl _) _).alloc (by simp) _
    have HEM := Lib.hid hem
    have HB := Lib.hid hb
    clear hem hb
    go_enter Try.func8, Try.ntmps8
    go_wp2_with fail
    go_ret2
    exact ⟨w.heap.size, rfl, Nat.le_refl _, HEM.out, HB.out⟩
  · have d4 : decide ((f : Int) < t) = false := decide_eq_false (by omega)
    have d4' : decide (f < t) = false := decide_eq_false hlt
    rw [if_neg (by omega)]
    have hem : EM (w.alloc (.cells #[.int .i64 (f : Nat), .int .i64 (t : Nat), .slice none 0 0] 57)) w.heap.size w.heap.size f t [] := ⟨_, heap_alloc_new w _, OR.nil _ _, fun _ => rfl⟩
    have hb : Below w.heap.size w (w.alloc (.cells #[.int .i64 (f : Nat), .int .i64 (t : Nat), .slice none 0 0] 57)) := (Below.refl _ _).alloc (Nat.le_refl _) _
    have HEM := Lib.hid hem
    have HB := Lib.hid hb
    clear hem hb
    go_enter Try.func8, Try.ntmps8
    go_wp2_with fail
    go_ret2
    exact ⟨w.heap.size, rfl, Nat.le_refl _, HEM.out, HB.out⟩
theorem New_bad (f t : Int) (w : World) (h : f < 0 ∨ t < f ∨ 4096 < t) :
    Calls Try.prog 8 #[.int .i64 f, .int .i64 t] w fun e w' => e = .returned (.tuple #[.pointer none, .int .i64 2]) ∧ w' = w := by
  by_cases h1 : f < 0
  · have d1 : decide (f < 0) = true := decide_eq_true h1
    go_enter Try.func8, Try.ntmps8
    go_wp2_with fail
    go_ret2
    exact ⟨rfl, rfl⟩
  · have d1 : decide (f < 0) = false := decide_eq_false h1
    by_cases h2 : t < f
    · have d2 : decide (t < f) = true := decide_eq_true h2
      go_enter Try.func8, Try.ntmps8
      go_wp2_with fail
      go_ret2
      exact ⟨rfl, rfl⟩
    · have d2 : decide (t < f) = false := decide_eq_false h2
      have d3 : decide (4096 < t) = true := decide_eq_true (by omega)
      go_enter Try.func8, Try.ntmps8
      go_wp2_with fail
      go_ret2
      exact ⟨rfl, rfl⟩
/-- What a Take answers, and what is left. -/
def takeF (l : List Rn) (n : Int) : Int × Int × List Rn :=
  if n < 1 then (0, 2, l) else
  match l.findIdx? (fun r => decide (n ≤ (r.2 : Int))) with
  | none => (0, 8, l)
  | some i => (((l.getD i (0, 0)).1 : Int), 0, cutL l i (l.getD i (0, 0)).1 n.toNat)
def TakeAns (base b f t : Nat) (x : Int × Int × List Rn) (w : World) (e : Ending) (w' : World) : Prop := e = .returned (.tuple #[.int .i64 x.1, .int .i64 x.2.1]) ∧ EM w' base b f t x.2.2 ∧ Gr (fun k => k = b) w w'
theorem idxR_find (p : Rn → Bool) (l : List Rn) : (idxR p l = -1 ∧ l.findIdx? p = none) ∨ ∃ i, ∃ h : i < l.length, idxR p l = (i : Nat) ∧ l.findIdx? p = some i ∧ p l[i] = true := by
  cases hf : l.findIdx? p with
  | none => exact .inl ⟨by unfold idxR; rw [hf], rfl⟩
  | some i =>
    obtain ⟨h1, h2, _⟩ := List.findIdx?_eq_some_iff_getElem.1 hf
    exact .inr ⟨i, h1, by unfold idxR; rw [hf], rfl, h2⟩
set_option maxRecDepth 20000 in
set_option maxHeartbeats 8000000 in
theorem Take_c (base b f t : Nat) (l : List Rn) (n : Int) (w : World) (hm : EM w base b f t l) (hbs : base ≤ w.heap.size) (hn : ∀ r ∈ l, r.1 + r.2 ≤ 4096) (hl : l.length ≤ 10000) :
    Calls Try.prog 13 #[.pointer (some ⟨b, 0, none⟩), .int .i64 n] w (TakeAns base b f t (takeF l n) w) := by
  have hb := hm.lt
  have hbox : Below w.heap.size w (w.alloc (.cells #[.int .i64 n] 3)) := (Below.refl _ _).alloc (Nat.le_refl _) _
  have hmb := hm.below hbox
  by_cases h1 : n < 1
  · have d1 : decide (n < 1) = true := decide_eq_true h1
    have he : takeF l n = (0, 2, l) := if_pos h1
    rw [he]
    have HMB := Lib.hid hmb
    have HB := Lib.hid hbox
    clear hm hmb hbox hn he
    go_enter Try.func13, Try.ntmps13
    go_wp2_with fail
    go_ret2
    exact ⟨rfl, HMB.out, Gr.of_below _ HB.out⟩
  · have d1 : decide (n < 1) = false := decide_eq_false h1
    have hgn : (w.alloc (.cells #[.int .i64 n] 3)).heap[w.heap.size]? = some (.cells #[.int .i64 n] 3 (0, 0)) := heap_alloc_new w _
    obtain ⟨W1, hW1⟩ : ∃ W1, w.alloc (.cells #[.int .i64 n] 3) = W1 := ⟨_, rfl⟩
    rw [hW1] at hmb hbox hgn
    have hs1 : W1.heap.size = w.heap.size + 1 := by rw [← hW1]; simp
    obtain ⟨v, hme, ho, hnil⟩ := hmb
    obtain ⟨A, c, ev, hc, hr⟩ := ho.reads
    subst ev
    have c2 := hme.c2
    have hcn : W1.cell? ⟨w.heap.size, 0, none⟩ = some (.int .i64 n) := by rw [cell_of_row _ _ _ _ _ _ hgn]; rfl
    have hidx := IndexFunc_c A c 27 #[.pointer (some ⟨w.heap.size, 0, none⟩)] (fun r => decide (n ≤ (r.2 : Int))) l W1 hr hn (take_pred w.heap.size n W1 hcn) (fun _ _ => by kernel_rfl)
    have hg27 : ∀ args W, Sem.run Try.prog (callFunc 27 args) W = .ok (.enter 27 args) W := fun _ _ => by kernel_rfl
    have hem1 : EM W1 base b f t l := ⟨_, hme, ho, hnil⟩
    have HW1 := Lib.hid hW1
    have HEM1 := Lib.hid hem1
    have HBX := Lib.hid hbox
    have HIDX := Lib.hid hidx
    have HN := Lib.hid hn
    have hcase := idxR_find (fun r => decide (n ≤ (r.2 : Int))) l
    obtain ⟨q, hq⟩ : ∃ q, idxR (fun r => decide (n ≤ (r.2 : Int))) l = q := ⟨_, rfl⟩
    rw [hq] at HIDX hcase
    rcases hcase with ⟨rfl, hf⟩ | ⟨i, hi, rfl, hf, hp⟩
    · have he : takeF l n = (0, 8, l) := by unfold takeF; rw [if_neg h1, hf]
      rw [he]
      clear hm hme ho hnil hr hgn hW1 hem1 hbox hidx hn hq hf he
      go_enter Try.func13, Try.ntmps13
      go_wp2_with (rw [HW1.out])
      refine HIDX.out.mono ?_
      rintro e w2 ⟨rfl, hb2⟩
      have HB2 := Lib.hid hb2
      clear hb2
      go_wp2_with fail
      go_ret2
      exact ⟨rfl, HEM1.out.below HB2.out, Gr.of_below _ (HBX.out.trans (HB2.out.mono (by omega)))⟩
    · have hp := of_decide_eq_true hp
      have he : takeF l n = (((l[i].1 : Nat) : Int), 0, cutL l i l[i].1 n.toNat) := by
        unfold takeF
        rw [if_neg h1, hf]
        simp [List.getD_eq_getElem?_getD, hi]
      rw [he]
      have hgd : l.getD i (0, 0) = l[i] := by simp [List.getD_eq_getElem?_getD, hi]
      have hbd := hn _ (List.getElem_mem hi)
      obtain ⟨x, hx⟩ : ∃ x, l[i] = x := ⟨_, rfl⟩
      obtain ⟨m, rfl⟩ : ∃ m : Nat, n = m := ⟨n.toNat, by omega⟩
      rw [hx] at hp hgd hbd ⊢
      rw [show (m : Int).toNat = m from Int.toNat_natCast m]
      have hcut := fun W (h : EM W base b f t l) hb => cut_c base b f t l i x.1 m W h hb hi (by rw [hgd]; exact Nat.le_refl _) (by rw [hgd]; omega) (fun r hr => by have := hn r hr; omega) hl
      have hat := hr.at i hi
      rw [hx] at hat
      obtain ⟨x1, hx1⟩ : ∃ x1, x.1 = x1 := ⟨_, rfl⟩
      rw [hx1] at hcut hat ⊢
      obtain ⟨g, o, eA, hg, a1, _⟩ := hat
      subst eA
      have ho0 : o = 0 := by
        obtain ⟨g', c', e', _⟩ := or_some ho (by omega)
        cases e'
        rfl
      subst ho0
      simp only [Nat.zero_add] at a1
      have HCUT := Lib.hid hcut
      have HMB := Lib.hid hme
      have HRU := Lib.hid hr
      have i0 : (0 : Int) ≤ (i : Int) := by omega
      have i1 : (i : Int) < (l.length : Int) := by omega
      have i2 : decide ((i : Int) < 0) = false := decide_eq_false (by omega)
      clear hm hme ho hnil hr hgn hW1 hem1 hbox hidx hn hq hf he hcut hx hgd hp hbd hx1
      go_enter Try.func13, Try.ntmps13
      go_wp2_with (rw [HW1.out])
      refine HIDX.out.mono ?_
      rintro e w2 ⟨rfl, hb2⟩
      have c22 : w2.cell? ⟨b, 2, none⟩ = some (.slice (some ⟨g, 0, none⟩) l.length c) := (hb2.cell (p := ⟨b, 2, none⟩) (by show b < _; omega)).trans c2
      have a12 : w2.cell? ⟨g, i * 2, none⟩ = some (.int .i64 (x1 : Nat)) := (hb2.cell (p := ⟨g, i * 2, none⟩) hg).trans a1
      have cn2 : w2.cell? ⟨w.heap.size, 0, none⟩ = some (.int .i64 (m : Nat)) := (hb2.cell (p := ⟨w.heap.size, 0, none⟩) (by show w.heap.size < _; omega)).trans hcn
      have hs2 := hb2.size
      have HEM2 := Lib.hid (HEM1.out.below hb2)
      have HB2 := Lib.hid (HBX.out.trans (hb2.mono (by omega)))
      clear hb2 c2 a1 hcn
      go_wp2_with fail
      refine (HCUT.out w2 HEM2.out (by omega)).mono ?_
      rintro e w3 ⟨rfl, hem3, hgr3⟩
      have HEM3 := Lib.hid (hem3.lower (base' := base) (by omega))
      have HGR3 := Lib.hid ((Gr.of_below (fun k => k = b) HB2.out).trans hgr3 (fun _ _ h => h))
      clear hem3 hgr3
      go_wp2_with fail
      go_ret2
      exact ⟨rfl, HEM3.out, HGR3.out⟩
end Go.Proofs.Ytdfgaomlahpblaa.F
