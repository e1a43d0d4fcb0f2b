/- The shard at a point, walked. -/
import Derived.Test.YtdmfecaejdiihaaPo
set_option linter.unusedVariables false
set_option linter.unusedSimpArgs false
namespace Go.Proofs.Ytdmfecaejdiihaa.F
open Go.RowKit Go.Proofs.YtdmfecaejdiihaaW.PrintWords

def colAt (css : List (List Nat)) (i : Nat) : List Nat := css.map fun cs => cs.getD i 0
def atV (css : List (List Nat)) (pts : List Nat) (x L : Nat) : List Nat := (List.range L).map fun i => gdot (colAt css i) (weights pts x)
theorem set_fill (f : Nat → Nat) (old : List Nat) (j : Nat) (h : j < old.length) : ((List.range j).map f ++ old.drop j).set j (f j) = (List.range (j + 1)).map f ++ old.drop (j + 1) := by
  rw [List.set_append_right _ _ (by simp), List.length_map, List.length_range, Nat.sub_self, List.range_succ, List.map_append, List.append_assoc, ← List.getElem_cons_drop h]
  rfl
theorem col_eq (css : List (List Nat)) (i : Nat) : (List.range css.length).map (fun j => (css.getD j []).getD i 0) = colAt css i := by
  unfold colAt
  apply List.ext_getElem
  · simp
  · intro k h1 h2
    have hk : k < css.length := by simpa using h2
    simp [List.getD_eq_getElem?_getD, hk]
theorem gdot_lt' {a b : List Nat} (ha : ∀ x ∈ a, x < 256) : gdot a b < 256 := by
  induction a generalizing b with
  | nil => cases b <;> simp [gdot]
  | cons x a ih =>
    cases b with
    | nil => simp [gdot]
    | cons y b =>
      simp only [gdot]
      exact xor_lt (gm_lt (ha x (by simp)) y) (ih (fun z hz => ha z (by simp [hz])))
theorem col_lt {css : List (List Nat)} (hb : ∀ cs ∈ css, ∀ y ∈ cs, y < 256) (i : Nat) : ∀ y ∈ colAt css i, y < 256 := by
  intro y hy
  obtain ⟨cs, hcs, rfl⟩ := List.mem_map.1 hy
  by_cases hi : i < cs.length
  · simp only [List.getD_eq_getElem?_getD, List.getElem?_eq_getElem hi]
    exact hb cs hcs _ (List.getElem_mem hi)
  · simp [List.getD_eq_getElem?_getD, List.getElem?_eq_none (Nat.le_of_not_lt hi)]
theorem weights_len (l : List Nat) (a : Nat) : (weights l a).length = l.length := by simp [weights]
theorem weights_lt {l : List Nat} {a : Nat} : ∀ y ∈ weights l a, y < 256 := by
  intro y hy
  obtain ⟨i, _, rfl⟩ := List.mem_map.1 hy
  exact gm_lt (pbut_lt _ _ _ _ (by omega)) _

set_option maxRecDepth 20000 in
set_option maxHeartbeats 8000000 in
theorem at_c (A B : Option Addr) (c d : Nat) (css : List (List Nat)) (pts : List Nat) (x L : Nat) (w : World) (hr : RR w A css) (hn : 0 < css.length) (hcl : css.length ≤ 256) (hlen : ∀ cs ∈ css, cs.length = L) (hL : L ≤ 4096)
    (hb : ∀ cs ∈ css, ∀ y ∈ cs, y < 256) (hp : RN .u8 w B pts) (hpl : pts.length ≤ 256) (hpb : ∀ y ∈ pts, y < 256) (hnd : pts.Nodup) (hx : x < 256) :
    Calls Try.prog 30 #[.slice A css.length c, .slice B pts.length d, .int .u8 x] w fun e w' => ∃ v, e = .returned v ∧ OwnN .u8 5 w' w.heap.size v (atV css pts x L) ∧ Below w.heap.size w w' := by
  have hmx := hr.max
  have hwt := fun W hr => Weights_c B d pts x W hr hpb hx hpl hnd
  have hwl := weights_len pts x
  have hwb := weights_lt (l := pts) (a := x)
  have hfl : ∀ i, gdot (colAt css i) (weights pts x) < 256 := fun i => gdot_lt' (col_lt hb i)
  have hatv : ∀ i, (List.range i).map (fun i => gdot (colAt css i) (weights pts x)) = atV css pts x i := fun _ => rfl
  have hsf := fun (old : List Nat) (j : Nat) (h : j < old.length) => set_fill (fun i => gdot (colAt css i) (weights pts x)) old j h
  obtain ⟨ws, hws⟩ : ∃ ws, weights pts x = ws := ⟨_, rfl⟩
  rw [hws] at hwt hwl hwb
  simp only [hws] at hfl hsf hatv
  have HWT := Lib.hid hwt
  have HWL := Lib.hid hwl
  have HWB := Lib.hid hwb
  have HFL := Lib.hid hfl
  have HSF := Lib.hid hsf
  have HATV := Lib.hid hatv
  have HWS := Lib.hid hws
  have HP := Lib.hid hp
  have HRR := Lib.hid hr
  have HLEN := Lib.hid hlen
  have HBB := Lib.hid hb
  clear hwt hwl hwb hfl hsf hatv hws hp hpb hnd hlen hb
  obtain ⟨ad, A0, c0, e, _, _, _⟩ := hr.at 0 hn
  subst e
  clear hr
  have hL2 : (L : Int) ≤ 4096 := by omega
  have hmk1 := print_make 29 5 .u8 1 Try.underlying29 info_u8 (by decide) L (by omega)
  have hmk2 := print_make 29 5 .u8 1 Try.underlying29 info_u8 (by decide) css.length (by omega)
  go_enter Try.func30, Try.ntmps30
  go_wp2_with fail
  refine (HWT.out _ HP.out).mono ?_
  rintro e w1 ⟨v1, rfl, ho1, hb1⟩
  obtain ⟨B1, d1, rfl, hd1, hn1, _, hr1⟩ := ho1.form
  obtain ⟨ad', A1, c1, e, q1, l1, r1⟩ := (HRR.out.below hb1).at 0 hn
  injection e with e
  subst e
  rw [HLEN.out _ (List.getElem_mem hn), show ad.add 0 = ad by unfold Addr.add; simp] at q1
  have hO1 := made_N (W := w1) (base := w1.heap.size) (e := 5) (k := .u8) (m := L) (Nat.le_refl _) (by omega)
  have hO2 := made_N (W := w1.alloc (.cells (madeCells #[.int .u8 0] L) 5)) (base := w1.heap.size) (e := 5) (k := .u8) (m := css.length) (by simp) (by omega)
  have hB3 : Below w1.heap.size w1 ((w1.alloc (.cells (madeCells #[.int .u8 0] L) 5)).alloc (.cells (madeCells #[.int .u8 0] css.length) 5)) := ((Below.refl _ _).alloc (Nat.le_refl _) _).alloc (by simp) _
  have hO1' := hO1.move (W' := (w1.alloc (.cells (madeCells #[.int .u8 0] L) 5)).alloc (.cells (madeCells #[.int .u8 0] css.length) 5)) (fun k hk => Below.heap_alloc _ _ _ (hO1.typed k hk).2.1)
  obtain ⟨W3, hW3⟩ : ∃ W3, (w1.alloc (.cells (madeCells #[.int .u8 0] L) 5)).alloc (.cells (madeCells #[.int .u8 0] css.length) 5) = W3 := ⟨_, rfl⟩
  simp only [World.size_alloc] at hO2
  rw [hW3] at hO2 hB3 hO1'
  have HW3 := Lib.hid hW3
  have HO1 := Lib.hid hO1'
  have HO2 := Lib.hid hO2
  have HB3 := Lib.hid hB3
  have HB1 := Lib.hid hb1
  have HR1 := Lib.hid hr1
  clear hW3 hO1 hO1' hO2 hB3 hb1 hr1 ho1 r1
  go_wp2_with (rw [HW3.out])
  go_loopw [30] (fun vi W => ∃ (i : Nat) (zs : List Nat), i ≤ L ∧ vi = .int .i64 i ∧ OwnN .u8 5 W w1.heap.size (.slice (some ⟨w1.heap.size, 0, none⟩) L L) ((List.range i).map (fun i => gdot (colAt css i) ws) ++ (List.replicate L 0).drop i) ∧
      zs.length = css.length ∧ OwnN .u8 5 W w1.heap.size (.slice (some ⟨w1.heap.size + 1, 0, none⟩) css.length css.length) zs ∧ Below w1.heap.size w1 W ∧ w1.heap.size + 2 ≤ W.heap.size) (fun vi _ => L - (intOf vi).toNat)
  case atStart => exact ⟨0, List.replicate css.length 0, by omega, rfl, by simpa using HO1.out, by simp, HO2.out, HB3.out, by rw [← HW3.out]; simp⟩
  case round =>
    obtain ⟨i, zs, hi, rfl, ho, hzl, hz, hB, hsz⟩ := hrel
    have HOO := Lib.hid ho
    have HBX := Lib.hid hB
    have hol : ((List.range i).map (fun i => gdot (colAt css i) ws) ++ (List.replicate L 0).drop i).length = L := by simp; omega
    by_cases hlt : i < L
    · have hd : decide ((i : Int) < L) = true := decide_eq_true (by omega)
      have hst := HSF.out (List.replicate L 0) i (by simpa using hlt)
      obtain ⟨os, hos⟩ : ∃ os, (List.range i).map (fun i => gdot (colAt css i) ws) ++ (List.replicate L 0).drop i = os := ⟨_, rfl⟩
      rw [hos] at hst hol HOO
      have hsfr := fun (j : Nat) (h : j < zs.length) => set_fill (fun j => (css.getD j []).getD i 0) zs j h
      have hcol := col_eq css i
      have hgl := HFL.out i
      have hcb := col_lt HBB.out i
      have hcll : (colAt css i).length = css.length := by simp [colAt]
      obtain ⟨cl, hclm⟩ : ∃ cl, colAt css i = cl := ⟨_, rfl⟩
      rw [hclm] at hst hcol hgl hcb hcll
      have HST := Lib.hid hst
      have HOL := Lib.hid hol
      have HSFR := Lib.hid hsfr
      have HCOL := Lib.hid hcol
      have HZ := Lib.hid hz
      have HZL := Lib.hid hzl
      have HCB := Lib.hid hcb
      have HCLL := Lib.hid hcll
      have i0 : (0 : Int) ≤ (i : Int) := by omega
      have i1 : (i : Int) < (L : Int) := by omega
      clear hst hol hos hsfr hcol hz hzl ho hB hclm hcb hcll
      obtain ⟨wo, rfl⟩ : ∃ wo : World, wo = wr := ⟨_, rfl⟩
      go_wp2_with fail
      go_loopw [35] (fun vj W => ∃ j : Nat, j ≤ css.length ∧ vj = .int .i64 j ∧ OwnN .u8 5 W w1.heap.size (.slice (some ⟨w1.heap.size + 1, 0, none⟩) css.length css.length) ((List.range j).map (fun j => (css.getD j []).getD i 0) ++ zs.drop j) ∧
          OwnN .u8 5 W w1.heap.size (.slice (some ⟨w1.heap.size, 0, none⟩) L L) os ∧ Below w1.heap.size w1 W ∧ wo.heap.size ≤ W.heap.size) (fun vj _ => css.length - (intOf vj).toNat)
      case atStart => exact ⟨0, by omega, rfl, by simpa using HZ.out, HOO.out, HBX.out, Nat.le_refl _⟩
      case round =>
        obtain ⟨j, hj, rfl, hz2, ho2, hB2, hsz2⟩ := hrel
        have HO2' := Lib.hid ho2
        have HB2' := Lib.hid hB2
        by_cases hlt2 : j < css.length
        · have hd2 : decide ((j : Int) < css.length) = true := decide_eq_true (by omega)
          obtain ⟨ad2, A5, c5, e, q5, l5, r5⟩ := ((HRR.out.below HB1.out).below HB2'.out).at j hlt2
          injection e with e
          subst e
          have hl5 := HLEN.out _ (List.getElem_mem hlt2)
          rw [hl5] at q5 l5
          obtain ⟨ad5, rfl, hc5⟩ := r5.at i (by omega)
          have hgd : (css.getD j []).getD i 0 = css[j][i]'(by omega) := by
            simp [List.getD_eq_getElem?_getD, hlt2, show i < css[j].length by omega]
          have hsn := HSFR.out j (by rw [HZL.out]; exact hlt2)
          rw [hgd] at hsn
          have hy : css[j][i]'(by omega) < 256 := HBB.out _ (List.getElem_mem hlt2) _ (List.getElem_mem _)
          obtain ⟨y, hye⟩ : ∃ y, css[j][i]'(by omega) = y := ⟨_, rfl⟩
          rw [hye] at hc5 hsn hy
          have hrl : ((List.range j).map (fun j => (css.getD j []).getD i 0) ++ zs.drop j).length = css.length := by have := HZL.out; simp; omega
          obtain ⟨rs, hrs⟩ : ∃ rs, (List.range j).map (fun j => (css.getD j []).getD i 0) ++ zs.drop j = rs := ⟨_, rfl⟩
          rw [hrs] at hz2 hsn hrl
          rw [← hrl] at hz2
          have hcj := hz2.cellAt j (by omega)
          have hfj := hz2.frozenAt j
          have hsj := hz2.stored j y
          rw [hsn, hrl] at hsj
          obtain ⟨u, hu⟩ : ∃ u, rs[j]'(by omega) = u := ⟨_, rfl⟩
          rw [hu] at hcj
          have hoj : OwnN .u8 5 (wr.setCell ⟨w1.heap.size + 1, j, none⟩ (.int .u8 (y : Nat))) w1.heap.size (.slice (some ⟨w1.heap.size, 0, none⟩) L L) os := HO2'.out.move (fun k hk => heap_setCell_other _ _ _ _ (fun e => by
            have e2 : k = w1.heap.size + 1 := e
            simp [Value.ownBlock] at hk
            omega))
          have HSJ := Lib.hid hsj
          have HOJ := Lib.hid hoj
          have j0 : (0 : Int) ≤ (j : Int) := by omega
          have j1 : (j : Int) < (css.length : Int) := by omega
          clear hl5 hgd hsn hye hrl hrs hz2 ho2 hB2 hsj hoj hu
          go_wp2_with fail
          exact ⟨⟨j + 1, by omega, by go_num, HSJ.out, HOJ.out, HB2'.out.setCell (p := ⟨w1.heap.size + 1, j, none⟩) (by simp) _, by simpa using hsz2⟩, by simp [intOf]; omega⟩
        · have hd2 : decide ((j : Int) < css.length) = false := decide_eq_false (by omega)
          obtain rfl : j = css.length := by omega
          have hzz := hz2
          rw [HCOL.out, List.drop_of_length_le (by rw [HZL.out]; exact Nat.le_refl _), List.append_nil] at hzz
          have hdot := fun W h1 h2 => Dot_c (some ⟨w1.heap.size + 1, 0, none⟩) B1 css.length d1 cl ws W h1 h2 HCB.out HWB.out
          rw [HCLL.out] at hdot
          have hzf : OwnN .u8 5 wr w1.heap.size (.slice (some ⟨w1.heap.size + 1, 0, none⟩) cl.length css.length) cl := by rw [HCLL.out]; exact hzz
          have hrz : RN .u8 wr (some ⟨w1.heap.size + 1, 0, none⟩) cl := by
            obtain ⟨A6, c6, e6, _, h6⟩ := hzf.reads
            injection e6 with e7 e8 e9
            rw [e7]
            exact h6
          have hbw : Below w1.heap.size w1 wr := hB2
          have HDOT := Lib.hid hdot
          have HRZ := Lib.hid hrz
          have HZZ := Lib.hid hzz
          have HRW := Lib.hid (HR1.out.below hbw)
          obtain ⟨gv, hgv⟩ : ∃ gv, gdot cl ws = gv := ⟨_, rfl⟩
          have HGV := Lib.hid hgv
          clear hdot hzf hrz hz2 ho2 hB2 hzz hbw hgv
          go_wp2_with fail
          refine (HDOT.out _ HRZ.out HRW.out).mono ?_
          rw [HGV.out]
          rintro e w7 ⟨rfl, n7, rfl⟩
          have ho7 : OwnN .u8 5 (wr.drewN n7) w1.heap.size (.slice (some ⟨w1.heap.size, 0, none⟩) L L) os := HO2'.out.move (fun _ _ => rfl)
          rw [← HOL.out] at ho7
          have hci := ho7.cellAt i (by have := HOL.out; omega)
          have hfi := ho7.frozenAt i
          have hsi := ho7.stored i gv
          have hst := HST.out
          rw [HGV.out] at hst
          rw [hst, HOL.out] at hsi
          obtain ⟨u, hu⟩ : ∃ u, os[i]'(by have := HOL.out; omega) = u := ⟨_, rfl⟩
          rw [hu] at hci
          have hzi : OwnN .u8 5 ((wr.drewN n7).setCell ⟨w1.heap.size, i, none⟩ (.int .u8 (gv : Nat))) w1.heap.size (.slice (some ⟨w1.heap.size + 1, 0, none⟩) css.length css.length) cl := HZZ.out.move (fun k hk => (heap_setCell_other _ _ _ _ (fun e => by
            have e2 : k = w1.heap.size := e
            simp [Value.ownBlock] at hk
            omega)).trans rfl)
          have HSI := Lib.hid hsi
          have HZI := Lib.hid hzi
          clear ho7 hsi hst hu hzi
          go_wp2_with fail
          exact ⟨⟨i + 1, cl, by omega, by go_num, HSI.out, HCLL.out, HZI.out, (pw_below_drewN HB2'.out n7).setCell (p := ⟨w1.heap.size, i, none⟩) (Nat.le_refl _) _, by simp; omega⟩, by simp [intOf]; omega⟩
    · have hd : decide ((i : Int) < L) = false := decide_eq_false (by omega)
      obtain rfl : i = L := by omega
      rw [List.drop_of_length_le (by simp), List.append_nil, HATV.out] at ho
      have HO9 := Lib.hid (ho.lower (b := w.heap.size) HB1.out.size)
      have HB9 := Lib.hid (HB1.out.trans (hB.mono HB1.out.size))
      clear ho hB hz hol
      go_wp2_with fail
      go_ret
      exact ⟨_, rfl, HO9.out, HB9.out⟩
end Go.Proofs.Ytdmfecaejdiihaa.F
