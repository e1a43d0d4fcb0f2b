/- The document's runs. -/
import Derived.Test.YtdfgaomlahpblaaEp
set_option linter.unusedVariables false
set_option linter.unusedSimpArgs false
namespace Go.Proofs.Ytdfgaomlahpblaa.F
open Go.RowKit Go.Proofs.YtdfgaomlahpblaaW.PrintWords

theorem flatR_same : ∀ (l : List Rn) (i : Nat) (h : i < l.length), (flatR l).set (i * 2) (.int .i64 (l[i].1 : Nat)) = flatR l
  | [], i, h => by simp at h
  | r :: l, 0, h => rfl
  | r :: l, i + 1, h => by
    have ih := flatR_same l i (by simpa using h)
    rw [show (i + 1) * 2 = (i * 2) + 1 + 1 by omega]
    simp [flatR, ih]
theorem OR.same {W : World} {base g cap : Nat} {l : List Rn} (h : OR W base (.slice (some ⟨g, 0, none⟩) l.length cap) l) (i : Nat) (hi : i < l.length) :
    OR (W.setCell ⟨g, i * 2, none⟩ (.int .i64 (l[i].1 : Nat))) base (.slice (some ⟨g, 0, none⟩) l.length cap) l := by
  rcases h.2 with ⟨e, _⟩ | ⟨g', cap', cur, e, hbg, hg, hnc, hcm, hcs, htk⟩
  · cases e
  · cases e
    obtain ⟨cl, hcl⟩ : ∃ cl : List Value, cur = cl.toArray := ⟨cur.toList, by simp⟩
    subst hcl
    have htk : cl.take (l.length * 2) = flatR l := htk
    rw [List.size_toArray] at hcs
    have hg2 := heap_setCell_same W g (i * 2) cl.toArray 38 (.int .i64 (l[i].1 : Nat)) hg
    rw [List.setIfInBounds_toArray] at hg2
    refine OR.of_block hg2 hbg rfl hnc (by unfold maxLen at hcm; omega) (by simpa using hcs) ?_
    rw [← flatR_same l i hi, ← htk, List.take_set]
theorem OR.frz {W : World} {base g cap n : Nat} {l : List Rn} (h : OR W base (.slice (some ⟨g, 0, none⟩) n cap) l) (k : Nat) : W.frozen? ⟨g, k, none⟩ = false := by
  obtain ⟨_, _, cs, hh⟩ := h.typed g rfl
  exact frozen_of_row _ _ _ _ _ hh
set_option maxRecDepth 20000 in
set_option maxHeartbeats 8000000 in
theorem Runs_r (b f : Nat) (T : List Bool) (w : World) (hm : EY w b f T) (hT : T.length ≤ 10000) (hf : f ≤ 10000) :
    Calls Try.prog 36 #[.pointer (some ⟨b, 0, none⟩)] w (RunsAns (runsOf f T) w) := by
  have hb := hm.lt
  have hm0 := hm
  obtain ⟨A, c, hg, hr, hc⟩ := hm
  have hbE : Below w.heap.size w (w.alloc (.cells #[] 38)) := (Below.refl _ _).alloc (Nat.le_refl _) _
  have hE : OR (w.alloc (.cells #[] 38)) w.heap.size (.slice (some ⟨w.heap.size, 0, none⟩) 0 0) (runsTo f T 0) := by
    have h := World.ownsRow_lit (base := w.heap.size) (e := 38) (size := 2) w #[] 0 (by simp) (by simp [maxLen]) (by simp)
    simpa [OR, runsTo, flatR] using h
  have HG := Lib.hid hg
  have HR := Lib.hid hr
  have HE := Lib.hid hE
  have HBE := Lib.hid hbE
  have hok := runsTo_ok f T
  have hbd : ∀ i, i ≤ T.length → (∀ r ∈ runsTo f T i, r.1 + r.2 ≤ f + i) ∧ (runsTo f T i).length ≤ i := fun i hi => by
    obtain ⟨h1, h2, _⟩ := hok i
    have hq : ∀ r ∈ runsTo f T i, f ≤ r.1 ∧ r.1 + r.2 ≤ f + i := fun r hr => by
      have hp := h1.2 r hr
      obtain ⟨j, hj, hx, _⟩ := (h2 r.1).1 ⟨r, hr, by unfold Rn.has; omega⟩
      obtain ⟨j2, hj2, hx2, _⟩ := (h2 (r.1 + r.2 - 1)).1 ⟨r, hr, by unfold Rn.has; omega⟩
      omega
    refine ⟨fun r hr => (hq r hr).2, ?_⟩
    by_cases hl : runsTo f T i = []
    · rw [hl]; simp
    · have := h1.sub_len f (f + i) hq hl
      omega
  have HOK := Lib.hid hok
  have HBD := Lib.hid hbd
  have n0 : (T.length : Int) ≤ 10000 := by omega
  have n1 : (f : Int) ≤ 10000 := by omega
  clear hg hr hE hbE hok hbd hm0
  go_enter Try.func36, Try.ntmps36
  go_wp2_with fail
  go_loopw [3, 4] (fun vo vi W => ∃ i : Nat, i ≤ T.length ∧ vi = .int .i64 i ∧ OR W w.heap.size vo (runsTo f T i) ∧ Below w.heap.size w W) (fun _ vi _ => T.length - (intOf vi).toNat)
  case atStart => exact ⟨0, by omega, rfl, HE.out, HBE.out⟩
  case round =>
    obtain ⟨i, hi, rfl, ho, hB⟩ := hrel
    have hgr := (hB.block b hb).trans HG.out
    have c0 : wr.cell? ⟨b, 0, none⟩ = some (.int .i64 (f : Nat)) := by rw [cell_of_row _ _ _ _ _ _ hgr]; rfl
    have c1 : wr.cell? ⟨b, 1, none⟩ = some (.slice A T.length c) := by rw [cell_of_row _ _ _ _ _ _ hgr]; rfl
    have hrr := HR.out.move (W' := wr) (fun g cs x hh => hB.block g (Array.getElem?_eq_some_iff.1 hh).1)
    have hsz := hB.size
    have HO := Lib.hid ho
    have HB := Lib.hid hB
    by_cases hlt : i < T.length
    · have hd : decide ((i : Int) < T.length) = true := decide_eq_true (by omega)
      obtain ⟨g, o, e, a1⟩ := hrr.at i hlt
      subst e
      have hst : runsTo f T (i + 1) = rstep f T (runsTo f T i) i := rfl
      unfold rstep at hst
      have i0 : (0 : Int) ≤ (i : Int) := by omega
      have i1 : (i : Int) < (T.length : Int) := by omega
      cases hz : T.getD i true with
      | true =>
        rw [hz] at a1 hst
        rw [if_pos rfl] at hst
        have ho2 := ho
        rw [← hst] at ho2
        have HO2 := Lib.hid ho2
        clear hgr hrr ho hB hz hst ho2
        go_wp2_with fail
        exact ⟨⟨i + 1, by omega, by go_num, HO2.out, HB.out⟩, by simp [intOf]; omega⟩
      | false =>
        rw [hz] at a1 hst
        rw [if_neg (by simp)] at hst
        by_cases hp : 0 < i ∧ T.getD (i - 1) true = false
        · rw [if_pos hp] at hst
          obtain ⟨L, r, hL, _⟩ := (HOK.out i).2.2 hp.1 hp.2
          obtain ⟨g2, o2, e2, a2⟩ := hrr.at (i - 1) (by omega)
          cases e2
          rw [hp.2] at a2
          rw [hL] at ho hst
          have hdl : (L ++ [r]).dropLast = L := by simp
          have hgl : (L ++ [r]).getLastD (0, 0) = r := by simp [List.getLastD_eq_getLast?]
          rw [hdl, hgl] at hst
          have hrb := (HBD.out i hi).1 r (by rw [hL]; simp)
          have hlb := (HBD.out i hi).2
          rw [hL, List.length_append] at hlb
          obtain ⟨g3, c3, e3, hg3, hc3⟩ := or_some ho (by simp)
          obtain ⟨k, hk⟩ : ∃ k, L.length = k := ⟨_, rfl⟩
          have hkk : (L ++ [r]).length = k + 1 := by simp [hk]
          rw [hkk] at e3 hc3
          subst e3
          obtain ⟨A4, c4, e4, _, hr4⟩ := ho.reads
          rw [hkk] at e4
          cases e4
          obtain ⟨g5, o5, e5, hg5, d1, d2⟩ := hr4.at k (by omega)
          cases e5
          have hrk : (L ++ [r])[k]'(by omega) = r := by subst hk; simp
          rw [hrk] at d1 d2
          simp only [Nat.zero_add] at d1 d2
          have z1 := OR.frz ho (k * 2)
          have z2 := OR.frz ho (k * 2 + 1)
          obtain ⟨x1, hx1⟩ : ∃ x1, r.1 = x1 := ⟨_, rfl⟩
          obtain ⟨x2, hx2⟩ : ∃ x2, r.2 = x2 := ⟨_, rfl⟩
          have hfin : OR (((wr.setCell ⟨g3, k * 2, none⟩ (.int .i64 (x1 : Nat))).setCell ⟨g3, k * 2 + 1, none⟩ (.int .i64 ((x2 : Int) + 1))).alloc (.cells #[.int .i64 (x1 : Nat), .int .i64 ((x2 : Int) + 1)] 38)) w.heap.size (.slice (some ⟨g3, 0, none⟩) (k + 1) c3) (runsTo f T (i + 1)) := by
            have h0 : OR wr w.heap.size (.slice (some ⟨g3, 0, none⟩) (L ++ [r]).length c3) (L ++ [r]) := by
              rw [hkk]
              exact ho
            have h1 := h0.same k (by omega)
            rw [hrk, hx1] at h1
            have h2 := h1.put k (x2 + 1) (by omega)
            rw [hrk, hx1, hkk] at h2
            rw [hst, hx1, hx2]
            have e : (L ++ [r]).set k (x1, x2 + 1) = L ++ [(x1, x2 + 1)] := by subst hk; simp
            rw [e] at h2
            exact h2.below ((Below.refl _ _).alloc (Nat.le_refl _) _)
          have hbf : Below w.heap.size w (((wr.setCell ⟨g3, k * 2, none⟩ (.int .i64 (x1 : Nat))).setCell ⟨g3, k * 2 + 1, none⟩ (.int .i64 ((x2 : Int) + 1))).alloc (.cells #[.int .i64 (x1 : Nat), .int .i64 ((x2 : Int) + 1)] 38)) :=
            ((hB.setCell (p := ⟨g3, k * 2, none⟩) hg3 _).setCell (p := ⟨g3, k * 2 + 1, none⟩) hg3 _).alloc (by simp; exact hB.size) _
          rw [hx1] at d1
          rw [hx2] at d2
          have HFIN := Lib.hid hfin
          have HBF := Lib.hid hbf
          have k0 : (0 : Int) ≤ (k : Int) := by omega
          have k1 : (k : Int) < (k : Int) + 1 := by omega
          have k2 : (k : Int) ≤ 10000 := by omega
          have x0 : (x2 : Int) ≤ 20000 := by omega
          have hne3 : ¬ (wr.heap.size = g3) := by omega
          have hne4 : ¬ (g3 = wr.heap.size) := by omega
          have hd0 : decide ((0 : Int) < i) = true := decide_eq_true (by omega)
          have hd0' : decide (0 < i) = true := decide_eq_true hp.1
          have j0 : (0 : Int) ≤ (i : Int) - 1 := by omega
          have j1 : (i : Int) - 1 < (T.length : Int) := by omega
          have j2 : ((i : Int) - 1).toNat = i - 1 := by omega
          have j3 : (1 : Int) ≤ (i : Int) := by omega
          clear hgr hrr ho hB hz hst hL hdl hgl hrb hlb hk hkk hr4 hrk hx1 hx2 hfin hbf hp hc3 HO
          go_wp2_with fail
          exact ⟨⟨i + 1, by omega, by go_num, HFIN.out, HBF.out⟩, by simp [intOf]; omega⟩
        · rw [if_neg hp] at hst
          have hba : Below wr.heap.size wr (wr.alloc (.cells #[.int .i64 ((f : Int) + i), .int .i64 1] 38)) := (Below.refl _ _).alloc (Nat.le_refl _) _
          have hone : RU (wr.alloc (.cells #[.int .i64 ((f : Int) + i), .int .i64 1] 38)) (some ⟨wr.heap.size, 0, none⟩) [(f + i, 1)] := RU.one (by
            rw [heap_alloc_new wr (.cells #[.int .i64 ((f : Int) + i), .int .i64 1] 38)]
            simp)
          have hoa := ho.below hba
          have hlb := (HBD.out i hi).2
          have hsa : w.heap.size ≤ (wr.alloc (.cells #[.int .i64 ((f : Int) + i), .int .i64 1] 38)).heap.size := by simp; omega
          have hla : (runsTo f T i).length + [(f + i, 1)].length ≤ 100000 := by simp; omega
          have HBA := Lib.hid hba
          have HONE := Lib.hid hone
          have HOA := Lib.hid hoa
          have HST := Lib.hid hst
          have HLA := Lib.hid hla
          have x0 : (f : Int) + i ≤ 20000 := by omega
          have x1 : (0 : Int) ≤ (f : Int) + i := by omega
          by_cases h0 : i = 0
          · have hd0 : decide ((0 : Int) < i) = false := decide_eq_false (by omega)
            have hd0' : decide (0 < i) = false := decide_eq_false (by omega)
            clear hgr hrr ho hB hz hst hba hone hoa hp hlb hla h0
            obtain ⟨wo, rfl⟩ : ∃ wo : World, wo = wr := ⟨_, rfl⟩
            go_wp2_with (at_builtin; refine append_RU w.heap.size rfl (.tmp 52) (.tmp 60) rfl _ _ [(f + i, 1)] _ 1 rfl rfl HOA.out HONE.out hsa HLA.out ?_; intro v5 w5 ho5 hg5 hv5)
            have hb5 : Below w.heap.size w w5 := (HB.out.trans (HBA.out.mono hsz)).grown hg5 hsa (fun k hk => own_base HOA.out k hk)
            rw [← HST.out] at ho5
            exact ⟨⟨i + 1, by omega, by go_num, ho5, hb5⟩, by simp [intOf]; omega⟩
          · have hd0 : decide ((0 : Int) < i) = true := decide_eq_true (by omega)
            have hd0' : decide (0 < i) = true := decide_eq_true (by omega)
            have j0 : (0 : Int) ≤ (i : Int) - 1 := by omega
            have j1 : (i : Int) - 1 < (T.length : Int) := by omega
            have j2 : ((i : Int) - 1).toNat = i - 1 := by omega
            have j3 : (1 : Int) ≤ (i : Int) := by omega
            obtain ⟨g2, o2, e2, a2⟩ := hrr.at (i - 1) (by omega)
            cases e2
            have hT1 : T.getD (i - 1) true = true := by
              cases h : T.getD (i - 1) true with
              | true => rfl
              | false => exact absurd ⟨by omega, h⟩ hp
            rw [hT1] at a2
            clear hgr hrr ho hB hz hst hba hone hoa hp hlb hla hT1
            obtain ⟨wo, rfl⟩ : ∃ wo : World, wo = wr := ⟨_, rfl⟩
            go_wp2_with (at_builtin; refine append_RU w.heap.size rfl (.tmp 52) (.tmp 60) rfl _ _ [(f + i, 1)] _ 1 rfl rfl HOA.out HONE.out hsa HLA.out ?_; intro v5 w5 ho5 hg5 hv5)
            have hb5 : Below w.heap.size w w5 := (HB.out.trans (HBA.out.mono hsz)).grown hg5 hsa (fun k hk => own_base HOA.out k hk)
            rw [← HST.out] at ho5
            exact ⟨⟨i + 1, by omega, by go_num, ho5, hb5⟩, by simp [intOf]; omega⟩
    · have hd : decide ((i : Int) < T.length) = false := decide_eq_false (by omega)
      obtain rfl : i = T.length := by omega
      clear hgr hrr ho hB
      go_wp2_with fail
      go_ret
      exact ⟨_, rfl, HO.out, HB.out⟩
end Go.Proofs.Ytdfgaomlahpblaa.F
