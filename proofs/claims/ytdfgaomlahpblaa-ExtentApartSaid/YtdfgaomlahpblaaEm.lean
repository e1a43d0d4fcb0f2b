/- Runs are given. -/
import Derived.Test.YtdfgaomlahpblaaEl
set_option linter.unusedVariables false
set_option linter.unusedSimpArgs false
namespace Go.Proofs.Ytdfgaomlahpblaa.F
open Go.RowKit Go.Proofs.YtdfgaomlahpblaaW.PrintWords

theorem ahead_eq (l : List Rn) (a : Nat) : ∀ i, i ≤ l.length → (∀ j (h : j < l.length), j < i → l[j].1 < a) → (∀ h : i < l.length, a ≤ l[i].1) → ahead l a = i := by
  unfold ahead
  induction l with
  | nil => intro i hi _ _; simp at hi; simp [hi]
  | cons r l ih =>
    intro i hi h1 h2
    cases i with
    | zero =>
      have := h2 (by simp)
      simp at this
      rw [List.takeWhile_cons_of_neg (by simpa using this)]
      rfl
    | succ i =>
      have h0 := h1 0 (by simp) (by omega)
      simp at h0
      rw [List.takeWhile_cons_of_pos (by simpa using h0), List.length_cons]
      rw [ih i (by simpa using hi) (fun j h hj => by have := h1 (j + 1) (by simpa using h) (by omega); simpa using this) (fun h => by have := h2 (by simpa using h); simpa using this)]
theorem joinI_bd {l : List Rn} (i : Int) (h : ∀ r ∈ l, r.1 + r.2 ≤ 4096) : ∀ r ∈ joinI l i, r.1 + r.2 ≤ 4096 := fun r hr => by
  unfold joinI at hr
  split at hr
  · exact h r hr
  · unfold joinL at hr
    split at hr
    · rename_i hc
      obtain ⟨hlt, he⟩ := hc
      rw [List.mem_append, List.mem_cons] at hr
      rcases hr with hr | rfl | hr
      · exact h r (List.mem_of_mem_take hr)
      · have := h (l.getD (i.toNat + 1) (0, 0)) (by rw [show l.getD (i.toNat + 1) (0, 0) = l[i.toNat + 1] by simp [List.getD_eq_getElem?_getD, hlt]]; exact List.getElem_mem hlt)
        show _ + (_ + _) ≤ 4096
        omega
      · exact h r (List.mem_of_mem_drop hr)
    · exact h r hr
theorem joinI_len (l : List Rn) (i : Int) : (joinI l i).length ≤ l.length := by
  unfold joinI
  split
  · omega
  · unfold joinL
    split
    · rw [List.length_append, List.length_cons, List.length_take, List.length_drop]; omega
    · omega
theorem giveL_eq (l : List Rn) (a n i : Nat) (h : ahead l a = i) : giveL l a n = joinI (joinI (insL l i (a, n)) i) ((i : Int) - 1) := by
  unfold giveL
  rw [h]
  have e : joinI (insL l i (a, n)) i = joinL (insL l i (a, n)) i := by unfold joinI; rw [if_neg (by omega)]; rfl
  rw [e]
  by_cases h0 : i = 0
  · subst h0
    rw [if_pos rfl]
    unfold joinI
    rw [if_pos (by omega)]
  · rw [if_neg h0]
    unfold joinI
    rw [if_neg (by omega)]
    congr 1
    omega
/-- What a Give answers, and what is left. -/
def giveF (f t : Nat) (l : List Rn) (a n : Int) : Int × List Rn :=
  if withinB f t a n = false then (2, l) else
  if 0 ≤ idxR (fun r => decide ((r.1 : Int) < a + n) && decide (a < (r.1 : Int) + r.2)) l then (9, l) else (0, giveL l a.toNat n.toNat)
set_option maxRecDepth 20000 in
set_option maxHeartbeats 8000000 in
theorem Give_c (base b f t : Nat) (l : List Rn) (a n : Int) (w : World) (hm : EM w base b f t l) (hbs : base ≤ w.heap.size) (hN : Norm l) (hn : ∀ r ∈ l, r.1 + r.2 ≤ 4096) (hl : l.length ≤ 9000) (ht : t ≤ 4096) (ha : -9223372036854775808 ≤ a ∧ a ≤ 9223372036854775807) :
    Calls Try.prog 14 #[.pointer (some ⟨b, 0, none⟩), .agg #[.int .i64 a, .int .i64 n]] w (ErrAns base b f t (giveF f t l a n) w) := by
  have hb := hm.lt
  have hbox : Below w.heap.size w (w.alloc (.cells #[.int .i64 a, .int .i64 n] 38)) := (Below.refl _ _).alloc (Nat.le_refl _) _
  have hgn : (w.alloc (.cells #[.int .i64 a, .int .i64 n] 38)).heap[w.heap.size]? = some (.cells #[.int .i64 a, .int .i64 n] 38 (0, 0)) := heap_alloc_new w _
  have hmb := hm.below hbox
  obtain ⟨W1, hW1⟩ : ∃ W1, w.alloc (.cells #[.int .i64 a, .int .i64 n] 38) = W1 := ⟨_, rfl⟩
  rw [hW1] at hmb hbox hgn
  have hs1 : W1.heap.size = w.heap.size + 1 := by rw [← hW1]; simp
  have k0 : W1.cell? ⟨w.heap.size, 0, none⟩ = some (.int .i64 a) := by rw [cell_of_row _ _ _ _ _ _ hgn]; rfl
  have k1 : W1.cell? ⟨w.heap.size, 1, none⟩ = some (.int .i64 n) := by rw [cell_of_row _ _ _ _ _ _ hgn]; rfl
  have hem1 := hmb
  obtain ⟨v, hme, ho, hnil⟩ := hmb
  have hwi := within_c b f t v a n W1 hme (by omega) ha
  have HWI := Lib.hid hwi
  have HW1 := Lib.hid hW1
  have HEM1 := Lib.hid hem1
  have HBX := Lib.hid hbox
  cases hwb : withinB f t a n with
  | false =>
    have he : giveF f t l a n = (2, l) := if_pos hwb
    rw [he]
    rw [hwb] at HWI
    clear hm hme ho hnil hgn hW1 hem1 hbox hwi hn hwb he hN
    go_enter Try.func14, Try.ntmps14
    go_wp2_with (rw [HW1.out])
    refine HWI.out.mono ?_
    rintro e w2 ⟨rfl, hb2⟩
    have HB2 := Lib.hid hb2
    clear hb2
    go_wp2_with fail
    go_ret
    exact ⟨rfl, HEM1.out.below HB2.out, Gr.of_below _ (HBX.out.trans (HB2.out.mono (by omega)))⟩
  | true =>
    obtain ⟨x, m, rfl, rfl, hm0, hfx, hxt⟩ := within_yes hwb ht
    rw [hwb] at HWI
    obtain ⟨A, c, ev, hc, hr⟩ := ho.reads
    subst ev
    have hg27 : ∀ args W, Sem.run Try.prog (callFunc 31 args) W = .ok (.enter 31 args) W := fun _ _ => by kernel_rfl
    have c2 := hme.c2
    have hidx := fun (W2 : World) (hb2 : Below W1.heap.size W1 W2) => ContainsFunc_c A c 31 #[.pointer (some ⟨w.heap.size, 0, none⟩)] (fun r => decide ((r.1 : Int) < (x : Int) + m) && decide ((x : Int) < (r.1 : Int) + r.2)) l W2 (hr.below hb2) hn (give_pred w.heap.size x m W2 ((hb2.cell (p := ⟨w.heap.size, 0, none⟩) (by show w.heap.size < _; omega)).trans k0) ((hb2.cell (p := ⟨w.heap.size, 1, none⟩) (by show w.heap.size < _; omega)).trans k1) (by omega)) (fun _ _ => by kernel_rfl)
    have HIDX := Lib.hid hidx
    have HN := Lib.hid hn
    have HNO := Lib.hid hN
    have hcase := idxR_cases (fun r => decide ((r.1 : Int) < (x : Int) + m) && decide ((x : Int) < (r.1 : Int) + r.2)) l
    have hgf : giveF f t l x m = if 0 ≤ idxR (fun r => decide ((r.1 : Int) < (x : Int) + m) && decide ((x : Int) < (r.1 : Int) + r.2)) l then (9, l) else (0, giveL l x m) := by
      unfold giveF
      rw [if_neg (by rw [hwb]; simp)]
      simp
    rw [hgf]
    obtain ⟨q, hq⟩ : ∃ q, idxR (fun r => decide ((r.1 : Int) < (x : Int) + m) && decide ((x : Int) < (r.1 : Int) + r.2)) l = q := ⟨_, rfl⟩
    rw [hq] at HIDX hcase ⊢
    by_cases hq0 : 0 ≤ q
    · rw [if_pos hq0]
      have hd : decide (0 ≤ q) = true := decide_eq_true hq0
      rw [hd] at HIDX
      clear hm hme ho hnil hgn hW1 hem1 hbox hwi hn hwb hgf hr hidx hq hcase hd hN
      go_enter Try.func14, Try.ntmps14
      go_wp2_with (rw [HW1.out])
      refine HWI.out.mono ?_
      rintro e w2 ⟨rfl, hb2⟩
      have c22 : w2.cell? ⟨b, 2, none⟩ = some (.slice A l.length c) := (hb2.cell (p := ⟨b, 2, none⟩) (by show b < _; omega)).trans c2
      have hcall := HIDX.out w2 hb2
      have HCALL := Lib.hid hcall
      have HB2 := Lib.hid hb2
      have hs2 := hb2.size
      clear hb2 hcall c2 k0 k1
      go_wp2_with fail
      refine HCALL.out.mono ?_
      rintro e w3 ⟨rfl, hb3⟩
      have HB3 := Lib.hid (HB2.out.trans (hb3.mono hs2))
      clear hb3
      go_wp2_with fail
      go_ret
      exact ⟨rfl, HEM1.out.below HB3.out, Gr.of_below _ (HBX.out.trans (HB3.out.mono (by omega)))⟩
    · rw [if_neg hq0]
      have hd : decide (0 ≤ q) = false := decide_eq_false hq0
      rw [hd] at HIDX
      have hdis : ∀ r ∈ l, ¬ (r.1 < x + m ∧ x < r.1 + r.2) := fun r hr hh => by
        rcases hcase with ⟨_, hall⟩ | ⟨i, _, hi, _⟩
        · have := hall r hr
          simp only [Bool.and_eq_false_iff, decide_eq_false_iff_not] at this
          omega
        · omega
      have HDIS := Lib.hid hdis
      have hanil : A = none ↔ l = [] := by
        constructor
        · intro e
          subst e
          rcases Nat.eq_zero_or_pos l.length with h | h
          · exact List.eq_nil_of_length_eq_zero h
          · obtain ⟨g, c', e, _⟩ := or_some ho h
            cases e
        · intro e
          have h := hnil e
          injection h
      have HANIL := Lib.hid hanil
      clear hanil
      have HO0 := Lib.hid (show ∀ g o, A = some ⟨g, o, none⟩ → 0 < l.length → o = 0 from fun g o e h => by
        obtain ⟨g', c', e', _⟩ := or_some ho h
        rw [e] at e'
        cases e'
        rfl)
      have HME := Lib.hid hme
      have n0 : (l.length : Int) ≤ 9000 := by omega
      have hlt1 : w.heap.size < W1.heap.size := by omega
      clear hm hme ho hgn hW1 hbox hwi hn hwb hgf hidx hq hcase hd hN hdis hnil
      go_enter Try.func14, Try.ntmps14
      go_wp2_with (rw [HW1.out])
      refine HWI.out.mono ?_
      rintro e w2 ⟨rfl, hb2⟩
      have c22 : w2.cell? ⟨b, 2, none⟩ = some (.slice A l.length c) := (hb2.cell (p := ⟨b, 2, none⟩) (by show b < _; omega)).trans c2
      have hcall := HIDX.out w2 hb2
      have HCALL := Lib.hid hcall
      have HB2 := Lib.hid hb2
      have hs2 := hb2.size
      clear hb2 hcall
      go_wp2_with fail
      refine HCALL.out.mono ?_
      rintro e w3 ⟨rfl, hb3⟩
      have hb13 := HB2.out.trans (hb3.mono hs2)
      have k03 : w3.cell? ⟨w.heap.size, 0, none⟩ = some (.int .i64 (x : Nat)) := (hb13.cell (p := ⟨w.heap.size, 0, none⟩) hlt1).trans k0
      have k13 : w3.cell? ⟨w.heap.size, 1, none⟩ = some (.int .i64 (m : Nat)) := (hb13.cell (p := ⟨w.heap.size, 1, none⟩) hlt1).trans k1
      have c23 : w3.cell? ⟨b, 2, none⟩ = some (.slice A l.length c) := (hb13.cell (p := ⟨b, 2, none⟩) (by show b < _; omega)).trans c2
      have hr3 := hr.below hb13
      have hs3 := hb13.size
      have HR3 := Lib.hid hr3
      have HEM3 := Lib.hid (HEM1.out.below hb13)
      have HB3 := Lib.hid (HBX.out.trans (hb13.mono (by omega)))
      have HB13 := Lib.hid hb13
      clear hb13 hb3 c2 k0 k1 c22 hr hr3 hem1
      go_wp2_with fail
      -- the loop over the runs that begin ahead
      go_loopw [5] (fun vi W => ∃ i : Nat, i ≤ l.length ∧ vi = .int .i64 i ∧ (∀ j (h : j < l.length), j < i → l[j].1 < x) ∧ Below w3.heap.size w3 W) (fun vi _ => l.length - (intOf vi).toNat)
      case atStart => exact ⟨0, by omega, rfl, fun j _ h => by omega, Below.refl _ _⟩
      case round =>
        obtain ⟨i, hi, rfl, hall, hBr⟩ := hrel
        have hlt3 : w.heap.size < w3.heap.size := by omega
        have c2r : wr.cell? ⟨b, 2, none⟩ = some (.slice A l.length c) := (hBr.cell (p := ⟨b, 2, none⟩) (by show b < _; omega)).trans c23
        have k0r : wr.cell? ⟨w.heap.size, 0, none⟩ = some (.int .i64 (x : Nat)) := (hBr.cell (p := ⟨w.heap.size, 0, none⟩) hlt3).trans k03
        have k1r : wr.cell? ⟨w.heap.size, 1, none⟩ = some (.int .i64 (m : Nat)) := (hBr.cell (p := ⟨w.heap.size, 1, none⟩) hlt3).trans k13
        have hr3 := HR3.out.below hBr
        have hsr := hBr.size
        have hbr : b < wr.heap.size := by omega
        have HALL := Lib.hid hall
        have HBB := Lib.hid hBr
        have HBr := Lib.hid (HB3.out.trans (hBr.mono (by omega)))
        have HMEr := Lib.hid (HME.out.move ((HB13.out.trans (hBr.mono (by omega))).block b (by omega)))
        have HRr := Lib.hid hr3
        have i0 : (0 : Int) ≤ (i : Int) := by omega
        by_cases hgo : ∃ h : i < l.length, l[i].1 < x
        · obtain ⟨hlt, hpx⟩ := hgo
          have hd1 : decide ((i : Int) < l.length) = true := decide_eq_true (by omega)
          have i1 : (i : Int) < (l.length : Int) := by omega
          obtain ⟨g, o, eA, hg, a1, _⟩ := hr3.at i hlt
          subst eA
          have ho0 : o = 0 := HO0.out _ _ rfl (by omega)
          subst ho0
          simp only [Nat.zero_add] at a1
          have hnx : ∀ j (h : j < l.length), j < i + 1 → l[j].1 < x := fun j h hj => by
            by_cases e : j = i
            · subst e; exact hpx
            · exact HALL.out j h (by omega)
          have HNX := Lib.hid hnx
          obtain ⟨p, hp⟩ : ∃ p, l[i].1 = p := ⟨_, rfl⟩
          rw [hp] at a1 hpx
          have hd2 : decide ((p : Int) < x) = true := decide_eq_true (by omega)
          have hd2' : decide (p < x) = true := decide_eq_true hpx
          clear hall hBr hp hnx hr3 hg
          go_wp2_with fail
          go_quiet (fail)
          go_wp2_with fail
          exact ⟨⟨i + 1, by omega, by go_num, HNX.out, pw_below_drewN HBB.out _⟩, by simp [intOf]; omega⟩
        · have hst : ∀ h : i < l.length, x ≤ l[i].1 := fun h => by
            rcases Nat.lt_or_ge l[i].1 x with h2 | h2
            · exact absurd ⟨h, h2⟩ hgo
            · exact h2
          have hah := ahead_eq l x i hi HALL.out hst
          have hgive := giveL_eq l x m i hah
          have hlen1 : (insL l i (x, m)).length ≤ 10001 := by rw [insL_len l i (x, m) hi]; omega
          have hbd0 : ∀ r ∈ insL l i (x, m), r.1 + r.2 ≤ 4096 := fun r hr => by
            unfold insL at hr
            rw [List.mem_append, List.mem_cons] at hr
            rcases hr with hr | rfl | hr
            · exact HN.out r (List.mem_of_mem_take hr)
            · show x + m ≤ 4096; omega
            · exact HN.out r (List.mem_of_mem_drop hr)
          have hbd1 : ∀ r ∈ insL l i (x, m), r.1 ≤ 5000 ∧ r.2 ≤ 5000 := fun r hr => by have := hbd0 r hr; omega
          have hbd2 : ∀ r ∈ joinI (insL l i (x, m)) i, r.1 ≤ 5000 ∧ r.2 ≤ 5000 := fun r hr => by have := joinI_bd i hbd0 r hr; omega
          have hlen2 : (joinI (insL l i (x, m)) i).length ≤ 10001 := Nat.le_trans (joinI_len _ _) hlen1
          have hne : giveL l x m ≠ [] := fun e => by
            have h := (give_ok x m HNO.out hm0 HDIS.out).2 x
            rw [e] at h
            exact absurd (h.2 (.inr ⟨Nat.le_refl _, by omega⟩)) (cov_nil x)
          have HGIVE := Lib.hid hgive
          have HLEN1 := Lib.hid hlen1
          have HLEN2 := Lib.hid hlen2
          have HBD1 := Lib.hid hbd1
          have HBD2 := Lib.hid hbd2
          have HNE := Lib.hid hne
          have HC2 := Lib.hid c2r
          have HK0 := Lib.hid k0r
          have HK1 := Lib.hid k1r
          clear hall hBr hgo hah hgive hlen1 hlen2 hbd0 hbd1 hbd2 hne
          by_cases hlt : i < l.length
          · have hd1 : decide ((i : Int) < l.length) = true := decide_eq_true (by omega)
            have i1 : (i : Int) < (l.length : Int) := by omega
            have hpx := hst hlt
            obtain ⟨g, o, eA, hg, a1, _⟩ := hr3.at i hlt
            have ho0 : o = 0 := HO0.out _ _ eA (by omega)
            subst ho0
            simp only [Nat.zero_add] at a1
            rw [eA] at c2r
            obtain ⟨p, hp⟩ : ∃ p, l[i].1 = p := ⟨_, rfl⟩
            rw [hp] at a1 hpx
            have hd2 : decide ((p : Int) < x) = false := decide_eq_false (by omega)
            have hd2' : decide (p < x) = false := decide_eq_false (by omega)
            clear hp hr3 hg hst eA
            go_wp2_with fail
            go_quiet (fail)
            go_wp2_with fail
            generalize hWq : World.drewN wr _ = wq
            have hbq : Below wr.heap.size wr wq := by rw [← hWq]; exact pw_below_drewN (Below.refl _ _) _
            have hsq : wr.heap.size ≤ wq.heap.size := hbq.size
            have hbr : b < wq.heap.size := by omega
            have c2q : wq.cell? ⟨b, 2, none⟩ = some (.slice A l.length c) := (hbq.cell (p := ⟨b, 2, none⟩) (by show b < _; omega)).trans HC2.out
            have k0q : wq.cell? ⟨w.heap.size, 0, none⟩ = some (.int .i64 (x : Nat)) := (hbq.cell (p := ⟨w.heap.size, 0, none⟩) (by show w.heap.size < _; omega)).trans HK0.out
            have k1q : wq.cell? ⟨w.heap.size, 1, none⟩ = some (.int .i64 (m : Nat)) := (hbq.cell (p := ⟨w.heap.size, 1, none⟩) (by show w.heap.size < _; omega)).trans HK1.out
            have HMEq := Lib.hid (HMEr.out.move (hbq.block b (by omega)))
            have HRq := Lib.hid (HRr.out.below hbq)
            have HBq := Lib.hid (HBr.out.trans (hbq.mono (by omega)))
            have hcl1 := Clone_c A c l wq.drew (HRq.out.move (Nat.le_refl _) (fun _ _ _ => rfl)) HANIL.out (by omega)
            have hcl2 := Clone_c A c l (wq.alloc (.cells #[.int .i64 (x : Nat), .int .i64 (m : Nat)] 38)).drew (HRq.out.below ((Below.refl _ _).alloc (Nat.le_refl _) _).drew) HANIL.out (by omega)
            have hbk : ∀ w6, Below wq.heap.size wq w6 → w6.heap[b]? = wq.heap[b]? := fun w6 h => h.block b hbr
            have htb : ∀ w6, Below wq.heap.size wq w6 → w6.cell? ⟨b, 2, none⟩ = some (.slice A l.length c) ∧ w6.cell? ⟨w.heap.size, 0, none⟩ = some (.int .i64 (x : Nat)) ∧ w6.cell? ⟨w.heap.size, 1, none⟩ = some (.int .i64 (m : Nat)) := fun w6 h =>
              ⟨(h.cell (p := ⟨b, 2, none⟩) hbr).trans c2q, (h.cell (p := ⟨w.heap.size, 0, none⟩) (by show w.heap.size < _; omega)).trans k0q, (h.cell (p := ⟨w.heap.size, 1, none⟩) (by show w.heap.size < _; omega)).trans k1q⟩
            have HCL1 := Lib.hid hcl1
            have HCL2 := Lib.hid hcl2
            have HBK := Lib.hid hbk
            have HTB := Lib.hid htb
            clear hWq hbq hcl1 hcl2 hbk htb k0r k1r
            try clear c2r
            refine wp_region_late [4, 7] (fun w' => w'.cell? ⟨b, 2, none⟩ = some (.slice A l.length c) ∧ w'.cell? ⟨w.heap.size, 0, none⟩ = some (.int .i64 (x : Nat)) ∧ w'.cell? ⟨w.heap.size, 1, none⟩ = some (.int .i64 (m : Nat))) (by kernel_rfl) ⟨c2q, k0q, k1q⟩ (fun hT => ?_)
            refine WL.take (i := 0) (v := ?_) rfl (by kernel_rfl) (by kernel_rfl) (by kernel_rfl) (by kernel_rfl) (fun _ _ _ h => h) (Or.inl ⟨by rfl, ?_⟩) (by assumption) ?_
            rotate_left 1
            · (intro w' hSw; (try (replace hSw := hSw (by decide); dsimp only at hSw)); go_split_ands; go_simp; try with_reducible rfl)
            simp only [Act.put, List.setIfInBounds_toArray, List.set_cons_zero, List.set_cons_succ]
            refine WL.take (i := 1) (v := ?_) rfl (by kernel_rfl) (by kernel_rfl) (by kernel_rfl) (by kernel_rfl) (fun _ _ _ h => h) (Or.inl ⟨by rfl, ?_⟩) (by assumption) ?_
            rotate_left 1
            · (intro w' hSw; (try (replace hSw := hSw (by decide); dsimp only at hSw)); go_split_ands; go_simp; try with_reducible rfl)
            simp only [Act.put, List.setIfInBounds_toArray, List.set_cons_zero, List.set_cons_succ]
            refine WL.take (i := 2) (v := ?_) rfl (by kernel_rfl) (by kernel_rfl) (by kernel_rfl) (by kernel_rfl) (fun _ _ _ h => h) (Or.inl ⟨by rfl, ?_⟩) (by assumption) ?_
            rotate_left 1
            · (intro w' hSw; (try (replace hSw := hSw (by decide); dsimp only at hSw)); go_split_ands; go_simp; try with_reducible rfl)
            simp only [Act.put, List.setIfInBounds_toArray, List.set_cons_zero, List.set_cons_succ]
            refine WL.take (i := 3) (v := ?_) rfl (by kernel_rfl) (by kernel_rfl) (by kernel_rfl) (by kernel_rfl) (fun _ _ _ h => h) (Or.inl ⟨by rfl, ?_⟩) (by assumption) ?_
            rotate_left 1
            · (intro w' hSw; (try (replace hSw := hSw (by decide); dsimp only at hSw)); go_split_ands; go_simp; try with_reducible rfl)
            simp only [Act.put, List.setIfInBounds_toArray, List.set_cons_zero, List.set_cons_succ]
            refine WL.take (i := 4) (v := ?_) rfl (by kernel_rfl) (by kernel_rfl) (by kernel_rfl) (by kernel_rfl) (fun _ _ _ h => h) (Or.inl ⟨by rfl, ?_⟩) (by assumption) ?_
            rotate_left 1
            · (intro w' hSw; (try (replace hSw := hSw (by decide); dsimp only at hSw)); go_split_ands; go_simp; try with_reducible rfl)
            simp only [Act.put, List.setIfInBounds_toArray, List.set_cons_zero, List.set_cons_succ]
            refine WL.take (i := 6) (v := ?_) rfl (by kernel_rfl) (by kernel_rfl) (by kernel_rfl) (by kernel_rfl) (fun _ _ _ h => h) (Or.inl ⟨by rfl, ?_⟩) (by assumption) ?_
            rotate_left 1
            · (intro w' hSw; (try (replace hSw := hSw (by decide); dsimp only at hSw)); go_split_ands; go_simp; try with_reducible rfl)
            simp only [Act.put, List.setIfInBounds_toArray, List.set_cons_zero, List.set_cons_succ]
            refine WL.take (i := 7) (v := ?_) rfl (by kernel_rfl) (by kernel_rfl) (by kernel_rfl) (by kernel_rfl) (fun _ _ _ h => h) (Or.inl ⟨by rfl, ?_⟩) (by assumption) ?_
            rotate_left 1
            · (intro w' hSw; (try (replace hSw := hSw (by decide); dsimp only at hSw)); go_split_ands; go_simp; try with_reducible rfl)
            simp only [Act.put, List.setIfInBounds_toArray, List.set_cons_zero, List.set_cons_succ]
            refine WL.two (i := 5) (j := 8) (by kernel_rfl) rfl rfl (fun K hK => ?_) (fun K hK => ?_)
            · go_simp
              go_at_call 33
              refine HCL1.out.mono ?_
              rintro e w5 ⟨v5, rfl, ho5, hb5⟩
              replace hb5 : Below wq.heap.size wq w5 := ⟨hb5.os, hb5.tape, hb5.output, hb5.size, hb5.block⟩
              replace ho5 : OR w5 wq.heap.size v5 l := ho5
              have hT5 := HTB.out w5 hb5
              have hbwI : Below wq.heap.size wq (w5.alloc (.cells #[.int .i64 (x : Nat), .int .i64 (m : Nat)] 38)) := hb5.alloc hb5.size _
              have hT6 := HTB.out _ hbwI
              obtain ⟨A5, c5, e5, _, _⟩ := ho5.reads
              subst e5
              have hg6 := heap_alloc_new w5 (.cells #[.int .i64 (x : Nat), .int .i64 (m : Nat)] 38)
              have HINS := Insert_c wq.heap.size w5.heap.size _ l i (x, m) (w5.alloc (.cells #[.int .i64 (x : Nat), .int .i64 (m : Nat)] 38)) (ho5.below ((Below.refl _ _).alloc (Nat.le_refl _) _)) (by simp; have := hb5.size; omega) hi (by omega) hg6 (fun e => by have := (ho5.typed _ e).2.1; omega)
              clear hg6 ho5 hb5
              go_simp
              refine hK.out _ _ (fun _ => hT5) ?_
              clear hK K
              refine WL.one (i := 8) (by kernel_rfl) rfl (fun K hK => ?_)
              go_simp
              refine hK.out _ _ (fun _ => hT6) ?_
              clear hK K hT5 hT6
              refine WL.late (i := 9) (by kernel_rfl) rfl (by kernel_rfl) (fun K hK => ?_)
              go_simp
              go_at_call 32
              refine HINS.mono ?_
              rintro e w6 ⟨v6, rfl, ho6, hb6⟩
              have hbw6 : Below wq.heap.size wq w6 := hbwI.trans hb6
              have K2 := (hbw6.cell (p := ⟨b, 2, none⟩) hbr).trans c2q
              have K3 := (HMEq.out.move (HBK.out w6 hbw6)).fr 2
              obtain ⟨A6, c6, e6, _, _⟩ := ho6.reads
              subst e6
              clear hb6 hbwI HINS
              go_simp
              refine hK.out _ _ ?_
              clear hK K
              refine WL.late (i := 10) (by kernel_rfl) rfl (by kernel_rfl) (fun K hK => ?_)
              go_simp
              refine hK.out _ _ ?_
              clear hK K
              refine WL.late (i := 11) (by kernel_rfl) rfl (by kernel_rfl) (fun K hK => ?_)
              go_simp
              refine hK.out _ _ ?_
              clear hK K
              refine WL.late (i := 12) (by kernel_rfl) rfl (by kernel_rfl) (fun K hK => ?_)
              go_simp
              refine hK.out _ _ ?_
              clear hK K
              refine WL.done (by kernel_rfl) ?_ _

              have hm6 : EMb w6 b f t (.slice A l.length c) := HMEq.out.move (HBK.out w6 hbw6)
              have hm7 := hm6.set (.slice A6 (insL l i (x, m)).length c6)
              have ho7 : OR (w6.setCell ⟨b, 2, none⟩ (.slice A6 (insL l i (x, m)).length c6)) wq.heap.size (.slice A6 (insL l i (x, m)).length c6) (insL l i (x, m)) := ho6.move (fun k hk => heap_setCell_other _ _ _ _ (fun e => by
                have := (ho6.typed k hk).1
                subst e
                exact absurd hbr (by simp; omega)))
              have hgr7 : Gr (fun k => k = b) w (w6.setCell ⟨b, 2, none⟩ (.slice A6 (insL l i (x, m)).length c6)) := (Gr.of_below _ (HBq.out.trans (hbw6.mono (by omega)))).trans (Gr.setCell (S := fun k => k = b) w6 ⟨b, 2, none⟩ _ rfl) (fun _ _ h => h)
              have hs7 : wq.heap.size ≤ (w6.setCell ⟨b, 2, none⟩ (.slice A6 (insL l i (x, m)).length c6)).heap.size := by simp; exact hbw6.size
              have HM7 := Lib.hid hm7
              have HO7 := Lib.hid ho7
              have HGR7 := Lib.hid hgr7
              clear hm6 hm7 ho7 hgr7 ho6 hbw6
              go_wp2_with fail
              refine (join_c wq.heap.size b f t _ (insL l i (x, m)) i _ HM7.out HO7.out hbr hs7 HLEN1.out HBD1.out (by omega) (by omega)).mono ?_
              rintro e w8 ⟨rfl, v8, hm8, ho8, hg8⟩
              have HM8 := Lib.hid hm8
              have HO8 := Lib.hid ho8
              have HG8 := Lib.hid hg8
              have hs8 := Nat.le_trans hs7 hg8.size
              clear hm8 ho8 hg8
              go_wp2_with fail
              refine (join_c wq.heap.size b f t v8 (joinI (insL l i (x, m)) i) ((i : Int) - 1) w8 HM8.out HO8.out hbr hs8 HLEN2.out HBD2.out (by omega) (by omega)).mono ?_
              rintro e w9 ⟨rfl, v9, hm9, ho9, hg9⟩
              have hg79 := HG8.out.trans hg9 (fun _ _ h => h)
              have hgr9 : Gr (fun k => k = b) w w9 := HGR7.out.trans hg79 (fun k hk h => h.elim id (fun h => absurd hk (by omega)))
              have hem9 : EM w9 base b f t (giveL l x m) := ⟨v9, hm9, by rw [HGIVE.out]; exact ho9.lower (by omega), fun h => absurd h HNE.out⟩
              have HEM9 := Lib.hid hem9
              have HGR9 := Lib.hid hgr9
              clear hm9 ho9 hg9 hg79 hem9 hgr9
              go_wp2_with fail
              go_ret
              exact ⟨rfl, HEM9.out, HGR9.out⟩
            · have hb5 : Below wq.heap.size wq (wq.alloc (.cells #[.int .i64 (x : Nat), .int .i64 (m : Nat)] 38)).drew := ((Below.refl _ _).alloc (Nat.le_refl _) _).drew
              have hT5 := HTB.out _ hb5
              go_simp
              refine hK.out _ _ (fun _ => hT5) ?_
              clear hK K
              refine WL.one (i := 5) (by kernel_rfl) rfl (fun K hK => ?_)
              go_simp
              go_at_call 33
              refine HCL2.out.mono ?_
              rintro e w5 ⟨v5, rfl, ho5, hb56⟩
              have hbwI : Below wq.heap.size wq w5 := hb5.trans (hb56.mono (by simp))
              have hT6 := HTB.out _ hbwI
              obtain ⟨A5, c5, e5, _, _⟩ := ho5.reads
              subst e5
              have hg5 := heap_alloc_new wq (.cells #[.int .i64 (x : Nat), .int .i64 (m : Nat)] 38)
              have hg6 := (hb56.block wq.heap.size (by simp)).trans hg5
              have HINS := Insert_c wq.heap.size wq.heap.size _ l i (x, m) w5 (ho5.lower (by simp)) hbwI.size hi (by omega) hg6 (fun e => by have := (ho5.typed _ e).1; simp at this; omega)
              clear hg5 hg6 ho5 hb56 hb5
              go_simp
              refine hK.out _ _ (fun _ => hT6) ?_
              clear hK K hT5 hT6
              refine WL.late (i := 9) (by kernel_rfl) rfl (by kernel_rfl) (fun K hK => ?_)
              go_simp
              go_at_call 32
              refine HINS.mono ?_
              rintro e w6 ⟨v6, rfl, ho6, hb6⟩
              have hbw6 : Below wq.heap.size wq w6 := hbwI.trans hb6
              have K2 := (hbw6.cell (p := ⟨b, 2, none⟩) hbr).trans c2q
              have K3 := (HMEq.out.move (HBK.out w6 hbw6)).fr 2
              obtain ⟨A6, c6, e6, _, _⟩ := ho6.reads
              subst e6
              clear hb6 hbwI HINS
              go_simp
              refine hK.out _ _ ?_
              clear hK K
              refine WL.late (i := 10) (by kernel_rfl) rfl (by kernel_rfl) (fun K hK => ?_)
              go_simp
              refine hK.out _ _ ?_
              clear hK K
              refine WL.late (i := 11) (by kernel_rfl) rfl (by kernel_rfl) (fun K hK => ?_)
              go_simp
              refine hK.out _ _ ?_
              clear hK K
              refine WL.late (i := 12) (by kernel_rfl) rfl (by kernel_rfl) (fun K hK => ?_)
              go_simp
              refine hK.out _ _ ?_
              clear hK K
              refine WL.done (by kernel_rfl) ?_ _

              have hm6 : EMb w6 b f t (.slice A l.length c) := HMEq.out.move (HBK.out w6 hbw6)
              have hm7 := hm6.set (.slice A6 (insL l i (x, m)).length c6)
              have ho7 : OR (w6.setCell ⟨b, 2, none⟩ (.slice A6 (insL l i (x, m)).length c6)) wq.heap.size (.slice A6 (insL l i (x, m)).length c6) (insL l i (x, m)) := ho6.move (fun k hk => heap_setCell_other _ _ _ _ (fun e => by
                have := (ho6.typed k hk).1
                subst e
                exact absurd hbr (by simp; omega)))
              have hgr7 : Gr (fun k => k = b) w (w6.setCell ⟨b, 2, none⟩ (.slice A6 (insL l i (x, m)).length c6)) := (Gr.of_below _ (HBq.out.trans (hbw6.mono (by omega)))).trans (Gr.setCell (S := fun k => k = b) w6 ⟨b, 2, none⟩ _ rfl) (fun _ _ h => h)
              have hs7 : wq.heap.size ≤ (w6.setCell ⟨b, 2, none⟩ (.slice A6 (insL l i (x, m)).length c6)).heap.size := by simp; exact hbw6.size
              have HM7 := Lib.hid hm7
              have HO7 := Lib.hid ho7
              have HGR7 := Lib.hid hgr7
              clear hm6 hm7 ho7 hgr7 ho6 hbw6
              go_wp2_with fail
              refine (join_c wq.heap.size b f t _ (insL l i (x, m)) i _ HM7.out HO7.out hbr hs7 HLEN1.out HBD1.out (by omega) (by omega)).mono ?_
              rintro e w8 ⟨rfl, v8, hm8, ho8, hg8⟩
              have HM8 := Lib.hid hm8
              have HO8 := Lib.hid ho8
              have HG8 := Lib.hid hg8
              have hs8 := Nat.le_trans hs7 hg8.size
              clear hm8 ho8 hg8
              go_wp2_with fail
              refine (join_c wq.heap.size b f t v8 (joinI (insL l i (x, m)) i) ((i : Int) - 1) w8 HM8.out HO8.out hbr hs8 HLEN2.out HBD2.out (by omega) (by omega)).mono ?_
              rintro e w9 ⟨rfl, v9, hm9, ho9, hg9⟩
              have hg79 := HG8.out.trans hg9 (fun _ _ h => h)
              have hgr9 : Gr (fun k => k = b) w w9 := HGR7.out.trans hg79 (fun k hk h => h.elim id (fun h => absurd hk (by omega)))
              have hem9 : EM w9 base b f t (giveL l x m) := ⟨v9, hm9, by rw [HGIVE.out]; exact ho9.lower (by omega), fun h => absurd h HNE.out⟩
              have HEM9 := Lib.hid hem9
              have HGR9 := Lib.hid hgr9
              clear hm9 ho9 hg9 hg79 hem9 hgr9
              go_wp2_with fail
              go_ret
              exact ⟨rfl, HEM9.out, HGR9.out⟩
          · have hd1 : decide ((i : Int) < l.length) = false := decide_eq_false (by omega)
            clear hr3 hst
            go_wp2_with fail
            go_quiet (fail)
            go_wp2_with fail
            generalize hWq : World.drewN wr _ = wq
            have hbq : Below wr.heap.size wr wq := by rw [← hWq]; exact pw_below_drewN (Below.refl _ _) _
            have hsq : wr.heap.size ≤ wq.heap.size := hbq.size
            have hbr : b < wq.heap.size := by omega
            have c2q : wq.cell? ⟨b, 2, none⟩ = some (.slice A l.length c) := (hbq.cell (p := ⟨b, 2, none⟩) (by show b < _; omega)).trans HC2.out
            have k0q : wq.cell? ⟨w.heap.size, 0, none⟩ = some (.int .i64 (x : Nat)) := (hbq.cell (p := ⟨w.heap.size, 0, none⟩) (by show w.heap.size < _; omega)).trans HK0.out
            have k1q : wq.cell? ⟨w.heap.size, 1, none⟩ = some (.int .i64 (m : Nat)) := (hbq.cell (p := ⟨w.heap.size, 1, none⟩) (by show w.heap.size < _; omega)).trans HK1.out
            have HMEq := Lib.hid (HMEr.out.move (hbq.block b (by omega)))
            have HRq := Lib.hid (HRr.out.below hbq)
            have HBq := Lib.hid (HBr.out.trans (hbq.mono (by omega)))
            have hcl1 := Clone_c A c l wq.drew (HRq.out.move (Nat.le_refl _) (fun _ _ _ => rfl)) HANIL.out (by omega)
            have hcl2 := Clone_c A c l (wq.alloc (.cells #[.int .i64 (x : Nat), .int .i64 (m : Nat)] 38)).drew (HRq.out.below ((Below.refl _ _).alloc (Nat.le_refl _) _).drew) HANIL.out (by omega)
            have hbk : ∀ w6, Below wq.heap.size wq w6 → w6.heap[b]? = wq.heap[b]? := fun w6 h => h.block b hbr
            have htb : ∀ w6, Below wq.heap.size wq w6 → w6.cell? ⟨b, 2, none⟩ = some (.slice A l.length c) ∧ w6.cell? ⟨w.heap.size, 0, none⟩ = some (.int .i64 (x : Nat)) ∧ w6.cell? ⟨w.heap.size, 1, none⟩ = some (.int .i64 (m : Nat)) := fun w6 h =>
              ⟨(h.cell (p := ⟨b, 2, none⟩) hbr).trans c2q, (h.cell (p := ⟨w.heap.size, 0, none⟩) (by show w.heap.size < _; omega)).trans k0q, (h.cell (p := ⟨w.heap.size, 1, none⟩) (by show w.heap.size < _; omega)).trans k1q⟩
            have HCL1 := Lib.hid hcl1
            have HCL2 := Lib.hid hcl2
            have HBK := Lib.hid hbk
            have HTB := Lib.hid htb
            clear hWq hbq hcl1 hcl2 hbk htb k0r k1r
            try clear c2r
            refine wp_region_late [4, 7] (fun w' => w'.cell? ⟨b, 2, none⟩ = some (.slice A l.length c) ∧ w'.cell? ⟨w.heap.size, 0, none⟩ = some (.int .i64 (x : Nat)) ∧ w'.cell? ⟨w.heap.size, 1, none⟩ = some (.int .i64 (m : Nat))) (by kernel_rfl) ⟨c2q, k0q, k1q⟩ (fun hT => ?_)
            refine WL.take (i := 0) (v := ?_) rfl (by kernel_rfl) (by kernel_rfl) (by kernel_rfl) (by kernel_rfl) (fun _ _ _ h => h) (Or.inl ⟨by rfl, ?_⟩) (by assumption) ?_
            rotate_left 1
            · (intro w' hSw; (try (replace hSw := hSw (by decide); dsimp only at hSw)); go_split_ands; go_simp; try with_reducible rfl)
            simp only [Act.put, List.setIfInBounds_toArray, List.set_cons_zero, List.set_cons_succ]
            refine WL.take (i := 1) (v := ?_) rfl (by kernel_rfl) (by kernel_rfl) (by kernel_rfl) (by kernel_rfl) (fun _ _ _ h => h) (Or.inl ⟨by rfl, ?_⟩) (by assumption) ?_
            rotate_left 1
            · (intro w' hSw; (try (replace hSw := hSw (by decide); dsimp only at hSw)); go_split_ands; go_simp; try with_reducible rfl)
            simp only [Act.put, List.setIfInBounds_toArray, List.set_cons_zero, List.set_cons_succ]
            refine WL.take (i := 2) (v := ?_) rfl (by kernel_rfl) (by kernel_rfl) (by kernel_rfl) (by kernel_rfl) (fun _ _ _ h => h) (Or.inl ⟨by rfl, ?_⟩) (by assumption) ?_
            rotate_left 1
            · (intro w' hSw; (try (replace hSw := hSw (by decide); dsimp only at hSw)); go_split_ands; go_simp; try with_reducible rfl)
            simp only [Act.put, List.setIfInBounds_toArray, List.set_cons_zero, List.set_cons_succ]
            refine WL.take (i := 3) (v := ?_) rfl (by kernel_rfl) (by kernel_rfl) (by kernel_rfl) (by kernel_rfl) (fun _ _ _ h => h) (Or.inl ⟨by rfl, ?_⟩) (by assumption) ?_
            rotate_left 1
            · (intro w' hSw; (try (replace hSw := hSw (by decide); dsimp only at hSw)); go_split_ands; go_simp; try with_reducible rfl)
            simp only [Act.put, List.setIfInBounds_toArray, List.set_cons_zero, List.set_cons_succ]
            refine WL.take (i := 4) (v := ?_) rfl (by kernel_rfl) (by kernel_rfl) (by kernel_rfl) (by kernel_rfl) (fun _ _ _ h => h) (Or.inl ⟨by rfl, ?_⟩) (by assumption) ?_
            rotate_left 1
            · (intro w' hSw; (try (replace hSw := hSw (by decide); dsimp only at hSw)); go_split_ands; go_simp; try with_reducible rfl)
            simp only [Act.put, List.setIfInBounds_toArray, List.set_cons_zero, List.set_cons_succ]
            refine WL.take (i := 6) (v := ?_) rfl (by kernel_rfl) (by kernel_rfl) (by kernel_rfl) (by kernel_rfl) (fun _ _ _ h => h) (Or.inl ⟨by rfl, ?_⟩) (by assumption) ?_
            rotate_left 1
            · (intro w' hSw; (try (replace hSw := hSw (by decide); dsimp only at hSw)); go_split_ands; go_simp; try with_reducible rfl)
            simp only [Act.put, List.setIfInBounds_toArray, List.set_cons_zero, List.set_cons_succ]
            refine WL.take (i := 7) (v := ?_) rfl (by kernel_rfl) (by kernel_rfl) (by kernel_rfl) (by kernel_rfl) (fun _ _ _ h => h) (Or.inl ⟨by rfl, ?_⟩) (by assumption) ?_
            rotate_left 1
            · (intro w' hSw; (try (replace hSw := hSw (by decide); dsimp only at hSw)); go_split_ands; go_simp; try with_reducible rfl)
            simp only [Act.put, List.setIfInBounds_toArray, List.set_cons_zero, List.set_cons_succ]
            refine WL.two (i := 5) (j := 8) (by kernel_rfl) rfl rfl (fun K hK => ?_) (fun K hK => ?_)
            · go_simp
              go_at_call 33
              refine HCL1.out.mono ?_
              rintro e w5 ⟨v5, rfl, ho5, hb5⟩
              replace hb5 : Below wq.heap.size wq w5 := ⟨hb5.os, hb5.tape, hb5.output, hb5.size, hb5.block⟩
              replace ho5 : OR w5 wq.heap.size v5 l := ho5
              have hT5 := HTB.out w5 hb5
              have hbwI : Below wq.heap.size wq (w5.alloc (.cells #[.int .i64 (x : Nat), .int .i64 (m : Nat)] 38)) := hb5.alloc hb5.size _
              have hT6 := HTB.out _ hbwI
              obtain ⟨A5, c5, e5, _, _⟩ := ho5.reads
              subst e5
              have hg6 := heap_alloc_new w5 (.cells #[.int .i64 (x : Nat), .int .i64 (m : Nat)] 38)
              have HINS := Insert_c wq.heap.size w5.heap.size _ l i (x, m) (w5.alloc (.cells #[.int .i64 (x : Nat), .int .i64 (m : Nat)] 38)) (ho5.below ((Below.refl _ _).alloc (Nat.le_refl _) _)) (by simp; have := hb5.size; omega) hi (by omega) hg6 (fun e => by have := (ho5.typed _ e).2.1; omega)
              clear hg6 ho5 hb5
              go_simp
              refine hK.out _ _ (fun _ => hT5) ?_
              clear hK K
              refine WL.one (i := 8) (by kernel_rfl) rfl (fun K hK => ?_)
              go_simp
              refine hK.out _ _ (fun _ => hT6) ?_
              clear hK K hT5 hT6
              refine WL.late (i := 9) (by kernel_rfl) rfl (by kernel_rfl) (fun K hK => ?_)
              go_simp
              go_at_call 32
              refine HINS.mono ?_
              rintro e w6 ⟨v6, rfl, ho6, hb6⟩
              have hbw6 : Below wq.heap.size wq w6 := hbwI.trans hb6
              have K2 := (hbw6.cell (p := ⟨b, 2, none⟩) hbr).trans c2q
              have K3 := (HMEq.out.move (HBK.out w6 hbw6)).fr 2
              obtain ⟨A6, c6, e6, _, _⟩ := ho6.reads
              subst e6
              clear hb6 hbwI HINS
              go_simp
              refine hK.out _ _ ?_
              clear hK K
              refine WL.late (i := 10) (by kernel_rfl) rfl (by kernel_rfl) (fun K hK => ?_)
              go_simp
              refine hK.out _ _ ?_
              clear hK K
              refine WL.late (i := 11) (by kernel_rfl) rfl (by kernel_rfl) (fun K hK => ?_)
              go_simp
              refine hK.out _ _ ?_
              clear hK K
              refine WL.late (i := 12) (by kernel_rfl) rfl (by kernel_rfl) (fun K hK => ?_)
              go_simp
              refine hK.out _ _ ?_
              clear hK K
              refine WL.done (by kernel_rfl) ?_ _

              have hm6 : EMb w6 b f t (.slice A l.length c) := HMEq.out.move (HBK.out w6 hbw6)
              have hm7 := hm6.set (.slice A6 (insL l i (x, m)).length c6)
              have ho7 : OR (w6.setCell ⟨b, 2, none⟩ (.slice A6 (insL l i (x, m)).length c6)) wq.heap.size (.slice A6 (insL l i (x, m)).length c6) (insL l i (x, m)) := ho6.move (fun k hk => heap_setCell_other _ _ _ _ (fun e => by
                have := (ho6.typed k hk).1
                subst e
                exact absurd hbr (by simp; omega)))
              have hgr7 : Gr (fun k => k = b) w (w6.setCell ⟨b, 2, none⟩ (.slice A6 (insL l i (x, m)).length c6)) := (Gr.of_below _ (HBq.out.trans (hbw6.mono (by omega)))).trans (Gr.setCell (S := fun k => k = b) w6 ⟨b, 2, none⟩ _ rfl) (fun _ _ h => h)
              have hs7 : wq.heap.size ≤ (w6.setCell ⟨b, 2, none⟩ (.slice A6 (insL l i (x, m)).length c6)).heap.size := by simp; exact hbw6.size
              have HM7 := Lib.hid hm7
              have HO7 := Lib.hid ho7
              have HGR7 := Lib.hid hgr7
              clear hm6 hm7 ho7 hgr7 ho6 hbw6
              go_wp2_with fail
              refine (join_c wq.heap.size b f t _ (insL l i (x, m)) i _ HM7.out HO7.out hbr hs7 HLEN1.out HBD1.out (by omega) (by omega)).mono ?_
              rintro e w8 ⟨rfl, v8, hm8, ho8, hg8⟩
              have HM8 := Lib.hid hm8
              have HO8 := Lib.hid ho8
              have HG8 := Lib.hid hg8
              have hs8 := Nat.le_trans hs7 hg8.size
              clear hm8 ho8 hg8
              go_wp2_with fail
              refine (join_c wq.heap.size b f t v8 (joinI (insL l i (x, m)) i) ((i : Int) - 1) w8 HM8.out HO8.out hbr hs8 HLEN2.out HBD2.out (by omega) (by omega)).mono ?_
              rintro e w9 ⟨rfl, v9, hm9, ho9, hg9⟩
              have hg79 := HG8.out.trans hg9 (fun _ _ h => h)
              have hgr9 : Gr (fun k => k = b) w w9 := HGR7.out.trans hg79 (fun k hk h => h.elim id (fun h => absurd hk (by omega)))
              have hem9 : EM w9 base b f t (giveL l x m) := ⟨v9, hm9, by rw [HGIVE.out]; exact ho9.lower (by omega), fun h => absurd h HNE.out⟩
              have HEM9 := Lib.hid hem9
              have HGR9 := Lib.hid hgr9
              clear hm9 ho9 hg9 hg79 hem9 hgr9
              go_wp2_with fail
              go_ret
              exact ⟨rfl, HEM9.out, HGR9.out⟩
            · have hb5 : Below wq.heap.size wq (wq.alloc (.cells #[.int .i64 (x : Nat), .int .i64 (m : Nat)] 38)).drew := ((Below.refl _ _).alloc (Nat.le_refl _) _).drew
              have hT5 := HTB.out _ hb5
              go_simp
              refine hK.out _ _ (fun _ => hT5) ?_
              clear hK K
              refine WL.one (i := 5) (by kernel_rfl) rfl (fun K hK => ?_)
              go_simp
              go_at_call 33
              refine HCL2.out.mono ?_
              rintro e w5 ⟨v5, rfl, ho5, hb56⟩
              have hbwI : Below wq.heap.size wq w5 := hb5.trans (hb56.mono (by simp))
              have hT6 := HTB.out _ hbwI
              obtain ⟨A5, c5, e5, _, _⟩ := ho5.reads
              subst e5
              have hg5 := heap_alloc_new wq (.cells #[.int .i64 (x : Nat), .int .i64 (m : Nat)] 38)
              have hg6 := (hb56.block wq.heap.size (by simp)).trans hg5
              have HINS := Insert_c wq.heap.size wq.heap.size _ l i (x, m) w5 (ho5.lower (by simp)) hbwI.size hi (by omega) hg6 (fun e => by have := (ho5.typed _ e).1; simp at this; omega)
              clear hg5 hg6 ho5 hb56 hb5
              go_simp
              refine hK.out _ _ (fun _ => hT6) ?_
              clear hK K hT5 hT6
              refine WL.late (i := 9) (by kernel_rfl) rfl (by kernel_rfl) (fun K hK => ?_)
              go_simp
              go_at_call 32
              refine HINS.mono ?_
              rintro e w6 ⟨v6, rfl, ho6, hb6⟩
              have hbw6 : Below wq.heap.size wq w6 := hbwI.trans hb6
              have K2 := (hbw6.cell (p := ⟨b, 2, none⟩) hbr).trans c2q
              have K3 := (HMEq.out.move (HBK.out w6 hbw6)).fr 2
              obtain ⟨A6, c6, e6, _, _⟩ := ho6.reads
              subst e6
              clear hb6 hbwI HINS
              go_simp
              refine hK.out _ _ ?_
              clear hK K
              refine WL.late (i := 10) (by kernel_rfl) rfl (by kernel_rfl) (fun K hK => ?_)
              go_simp
              refine hK.out _ _ ?_
              clear hK K
              refine WL.late (i := 11) (by kernel_rfl) rfl (by kernel_rfl) (fun K hK => ?_)
              go_simp
              refine hK.out _ _ ?_
              clear hK K
              refine WL.late (i := 12) (by kernel_rfl) rfl (by kernel_rfl) (fun K hK => ?_)
              go_simp
              refine hK.out _ _ ?_
              clear hK K
              refine WL.done (by kernel_rfl) ?_ _

              have hm6 : EMb w6 b f t (.slice A l.length c) := HMEq.out.move (HBK.out w6 hbw6)
              have hm7 := hm6.set (.slice A6 (insL l i (x, m)).length c6)
              have ho7 : OR (w6.setCell ⟨b, 2, none⟩ (.slice A6 (insL l i (x, m)).length c6)) wq.heap.size (.slice A6 (insL l i (x, m)).length c6) (insL l i (x, m)) := ho6.move (fun k hk => heap_setCell_other _ _ _ _ (fun e => by
                have := (ho6.typed k hk).1
                subst e
                exact absurd hbr (by simp; omega)))
              have hgr7 : Gr (fun k => k = b) w (w6.setCell ⟨b, 2, none⟩ (.slice A6 (insL l i (x, m)).length c6)) := (Gr.of_below _ (HBq.out.trans (hbw6.mono (by omega)))).trans (Gr.setCell (S := fun k => k = b) w6 ⟨b, 2, none⟩ _ rfl) (fun _ _ h => h)
              have hs7 : wq.heap.size ≤ (w6.setCell ⟨b, 2, none⟩ (.slice A6 (insL l i (x, m)).length c6)).heap.size := by simp; exact hbw6.size
              have HM7 := Lib.hid hm7
              have HO7 := Lib.hid ho7
              have HGR7 := Lib.hid hgr7
              clear hm6 hm7 ho7 hgr7 ho6 hbw6
              go_wp2_with fail
              refine (join_c wq.heap.size b f t _ (insL l i (x, m)) i _ HM7.out HO7.out hbr hs7 HLEN1.out HBD1.out (by omega) (by omega)).mono ?_
              rintro e w8 ⟨rfl, v8, hm8, ho8, hg8⟩
              have HM8 := Lib.hid hm8
              have HO8 := Lib.hid ho8
              have HG8 := Lib.hid hg8
              have hs8 := Nat.le_trans hs7 hg8.size
              clear hm8 ho8 hg8
              go_wp2_with fail
              refine (join_c wq.heap.size b f t v8 (joinI (insL l i (x, m)) i) ((i : Int) - 1) w8 HM8.out HO8.out hbr hs8 HLEN2.out HBD2.out (by omega) (by omega)).mono ?_
              rintro e w9 ⟨rfl, v9, hm9, ho9, hg9⟩
              have hg79 := HG8.out.trans hg9 (fun _ _ h => h)
              have hgr9 : Gr (fun k => k = b) w w9 := HGR7.out.trans hg79 (fun k hk h => h.elim id (fun h => absurd hk (by omega)))
              have hem9 : EM w9 base b f t (giveL l x m) := ⟨v9, hm9, by rw [HGIVE.out]; exact ho9.lower (by omega), fun h => absurd h HNE.out⟩
              have HEM9 := Lib.hid hem9
              have HGR9 := Lib.hid hgr9
              clear hm9 ho9 hg9 hg79 hem9 hgr9
              go_wp2_with fail
              go_ret
              exact ⟨rfl, HEM9.out, HGR9.out⟩
end Go.Proofs.Ytdfgaomlahpblaa.F
