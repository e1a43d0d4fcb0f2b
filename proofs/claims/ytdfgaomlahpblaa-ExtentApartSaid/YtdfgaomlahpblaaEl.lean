/- Runs are claimed. -/
import Derived.Test.YtdfgaomlahpblaaEk
set_option linter.unusedVariables false
set_option linter.unusedSimpArgs false
namespace Go.Proofs.Ytdfgaomlahpblaa.F
open Go.RowKit Go.Proofs.YtdfgaomlahpblaaW.PrintWords

/-- What a Claim answers, and what is left. -/
def claimF (f t : Nat) (l : List Rn) (a n : Int) : Int × List Rn :=
  if withinB f t a n = false then (2, l) else
  match l.findIdx? (fun r => decide ((r.1 : Int) ≤ a) && decide (a + n ≤ (r.1 : Int) + r.2)) with
  | none => (10, l)
  | some i => (0, cutL l i a.toNat n.toNat)
def ErrAns (base b f t : Nat) (x : Int × List Rn) (w : World) (e : Ending) (w' : World) : Prop := e = .returned (.int .i64 x.1) ∧ EM w' base b f t x.2 ∧ Gr (fun k => k = b) w w'
theorem within_yes {f t : Nat} {a n : Int} (h : withinB f t a n = true) (ht : t ≤ 4096) : ∃ x m : Nat, a = x ∧ n = m ∧ 0 < m ∧ f ≤ x ∧ x + m ≤ t := by
  have h := of_decide_eq_true h
  exact ⟨a.toNat, n.toNat, by omega, by omega, by omega, by omega, by omega⟩
set_option maxRecDepth 20000 in
set_option maxHeartbeats 8000000 in
theorem Claim_c (base b f t : Nat) (l : List Rn) (a n : Int) (w : World) (hm : EM w base b f t l) (hbs : base ≤ w.heap.size) (hn : ∀ r ∈ l, r.1 + r.2 ≤ 4096) (hl : l.length ≤ 10000) (ht : t ≤ 4096) (ha : -9223372036854775808 ≤ a ∧ a ≤ 9223372036854775807) :
    Calls Try.prog 22 #[.pointer (some ⟨b, 0, none⟩), .agg #[.int .i64 a, .int .i64 n]] w (ErrAns base b f t (claimF f t l a n) w) := by
  have hb := hm.lt
  have hbox : Below w.heap.size w (w.alloc (.cells #[.int .i64 a, .int .i64 n] 38)) := (Below.refl _ _).alloc (Nat.le_refl _) _
  have hgn : (w.alloc (.cells #[.int .i64 a, .int .i64 n] 38)).heap[w.heap.size]? = some (.cells #[.int .i64 a, .int .i64 n] 38 (0, 0)) := heap_alloc_new w _
  have hmb := hm.below hbox
  obtain ⟨W1, hW1⟩ : ∃ W1, w.alloc (.cells #[.int .i64 a, .int .i64 n] 38) = W1 := ⟨_, rfl⟩
  rw [hW1] at hmb hbox hgn
  have hs1 : W1.heap.size = w.heap.size + 1 := by rw [← hW1]; simp
  have k0 : W1.cell? ⟨w.heap.size, 0, none⟩ = some (.int .i64 a) := by rw [cell_of_row _ _ _ _ _ _ hgn]; rfl
  have k1 : W1.cell? ⟨w.heap.size, 1, none⟩ = some (.int .i64 n) := by rw [cell_of_row _ _ _ _ _ _ hgn]; rfl
  have hem1 := hmb
  obtain ⟨v, hme, ho, hnil⟩ := hmb
  have hwi := within_c b f t v a n W1 hme (by omega) ha
  have HWI := Lib.hid hwi
  have HW1 := Lib.hid hW1
  have HEM1 := Lib.hid hem1
  have HBX := Lib.hid hbox
  cases hwb : withinB f t a n with
  | false =>
    have he : claimF f t l a n = (2, l) := if_pos hwb
    rw [he]
    rw [hwb] at HWI
    clear hm hme ho hnil hgn hW1 hem1 hbox hwi hn hwb he
    go_enter Try.func22, Try.ntmps22
    go_wp2_with (rw [HW1.out])
    refine HWI.out.mono ?_
    rintro e w2 ⟨rfl, hb2⟩
    have HB2 := Lib.hid hb2
    clear hb2
    go_wp2_with fail
    go_ret
    exact ⟨rfl, HEM1.out.below HB2.out, Gr.of_below _ (HBX.out.trans (HB2.out.mono (by omega)))⟩
  | true =>
    obtain ⟨x, m, rfl, rfl, hm0, hfx, hxt⟩ := within_yes hwb ht
    rw [hwb] at HWI
    obtain ⟨A, c, ev, hc, hr⟩ := ho.reads
    subst ev
    have hg27 : ∀ args W, Sem.run Try.prog (callFunc 40 args) W = .ok (.enter 40 args) W := fun _ _ => by kernel_rfl
    have c2 := hme.c2
    have hidx := fun (W2 : World) (hb2 : Below W1.heap.size W1 W2) => IndexFunc_c A c 40 #[.pointer (some ⟨w.heap.size, 0, none⟩)] (fun r => decide ((r.1 : Int) ≤ x) && decide ((x : Int) + m ≤ (r.1 : Int) + r.2)) l W2 (hr.below hb2) hn (claim_pred w.heap.size x m W2 ((hb2.cell (p := ⟨w.heap.size, 0, none⟩) (by show w.heap.size < _; omega)).trans k0) ((hb2.cell (p := ⟨w.heap.size, 1, none⟩) (by show w.heap.size < _; omega)).trans k1) (by omega)) (fun _ _ => by kernel_rfl)
    have HIDX := Lib.hid hidx
    have HN := Lib.hid hn
    have hcase := idxR_find (fun r => decide ((r.1 : Int) ≤ x) && decide ((x : Int) + m ≤ (r.1 : Int) + r.2)) l
    obtain ⟨q, hq⟩ : ∃ q, idxR (fun r => decide ((r.1 : Int) ≤ x) && decide ((x : Int) + m ≤ (r.1 : Int) + r.2)) l = q := ⟨_, rfl⟩
    rw [hq] at HIDX hcase
    rcases hcase with ⟨rfl, hf⟩ | ⟨i, hi, rfl, hf, hp⟩
    · have he : claimF f t l x m = (10, l) := by unfold claimF; rw [if_neg (by rw [hwb]; simp), hf]
      rw [he]
      clear hm hme ho hnil hgn hW1 hem1 hbox hwi hn hwb he hr hidx hq hf
      go_enter Try.func22, Try.ntmps22
      go_wp2_with (rw [HW1.out])
      refine HWI.out.mono ?_
      rintro e w2 ⟨rfl, hb2⟩
      have c22 : w2.cell? ⟨b, 2, none⟩ = some (.slice A l.length c) := (hb2.cell (p := ⟨b, 2, none⟩) (by show b < _; omega)).trans c2
      have hcall := HIDX.out w2 hb2
      have HCALL := Lib.hid hcall
      have HB2 := Lib.hid hb2
      have hs2 := hb2.size
      clear hb2 hcall c2 k0 k1
      go_wp2_with fail
      refine HCALL.out.mono ?_
      rintro e w3 ⟨rfl, hb3⟩
      have HB3 := Lib.hid (HB2.out.trans (hb3.mono hs2))
      clear hb3
      go_wp2_with fail
      go_ret
      exact ⟨rfl, HEM1.out.below HB3.out, Gr.of_below _ (HBX.out.trans (HB3.out.mono (by omega)))⟩
    · have he : claimF f t l x m = (0, cutL l i x m) := by
        unfold claimF
        rw [if_neg (by rw [hwb]; simp), hf]
        simp
      rw [he]
      have hgd : l.getD i (0, 0) = l[i] := by simp [List.getD_eq_getElem?_getD, hi]
      simp only [Bool.and_eq_true, decide_eq_true_eq] at hp
      obtain ⟨hp1, hp2⟩ := hp
      have hcut := fun W (h : EM W base b f t l) hb => cut_c base b f t l i x m W h hb hi (by rw [hgd]; omega) (by rw [hgd]; omega) (fun r hr => by have := hn r hr; omega) hl
      have HCUT := Lib.hid hcut
      have i2 : decide ((i : Int) < 0) = false := decide_eq_false (by omega)
      clear hm hme ho hnil hgn hW1 hem1 hbox hwi hn hwb he hr hidx hq hf hcut hgd hp1 hp2
      go_enter Try.func22, Try.ntmps22
      go_wp2_with (rw [HW1.out])
      refine HWI.out.mono ?_
      rintro e w2 ⟨rfl, hb2⟩
      have c22 : w2.cell? ⟨b, 2, none⟩ = some (.slice A l.length c) := (hb2.cell (p := ⟨b, 2, none⟩) (by show b < _; omega)).trans c2
      have hcall := HIDX.out w2 hb2
      have HCALL := Lib.hid hcall
      have HB2 := Lib.hid hb2
      have hs2 := hb2.size
      clear hb2 hcall
      go_wp2_with fail
      refine HCALL.out.mono ?_
      rintro e w3 ⟨rfl, hb3⟩
      have hb13 := HB2.out.trans (hb3.mono hs2)
      have k03 : w3.cell? ⟨w.heap.size, 0, none⟩ = some (.int .i64 (x : Nat)) := (hb13.cell (p := ⟨w.heap.size, 0, none⟩) (by show w.heap.size < _; omega)).trans k0
      have k13 : w3.cell? ⟨w.heap.size, 1, none⟩ = some (.int .i64 (m : Nat)) := (hb13.cell (p := ⟨w.heap.size, 1, none⟩) (by show w.heap.size < _; omega)).trans k1
      have hs3 := hb13.size
      have HEM3 := Lib.hid (HEM1.out.below hb13)
      have HB3 := Lib.hid (HBX.out.trans (hb13.mono (by omega)))
      clear hb13 hb3 c2 k0 k1 c22
      go_wp2_with fail
      refine (HCUT.out w3 HEM3.out (by omega)).mono ?_
      rintro e w4 ⟨rfl, hem4, hgr4⟩
      have HEM4 := Lib.hid (hem4.lower (base' := base) (by omega))
      have HGR4 := Lib.hid ((Gr.of_below (fun k => k = b) HB3.out).trans hgr4 (fun _ _ h => h))
      clear hem4 hgr4
      go_wp2_with fail
      go_ret
      exact ⟨rfl, HEM4.out, HGR4.out⟩
end Go.Proofs.Ytdfgaomlahpblaa.F
