/- A run is inserted into a row. -/
import Derived.Test.YtdfgaomlahpblaaEe
import Derived.Laws.Externs
import Derived.Laws.NewBlocks
import Derived.Deep.RegionLaw
import Derived.StillTailTactics
set_option linter.unusedVariables false
set_option linter.unusedSimpArgs false
namespace Go.Proofs.Ytdfgaomlahpblaa.F
open Go.RowKit Go.Proofs.YtdfgaomlahpblaaW.PrintWords

theorem insL_end (l : List Rn) (r : Rn) : insL l l.length r = l ++ [r] := by simp [insL]
theorem insL_len (l : List Rn) (i : Nat) (r : Rn) (h : i ≤ l.length) : (insL l i r).length = l.length + 1 := by simp [insL]; omega
theorem flatR_one1 (r : Rn) : flatR [r] = rcells r := rfl
theorem insL_flat (l : List Rn) (i : Nat) (r : Rn) : flatR (insL l i r) = flatR (l.take i) ++ (rcells r ++ flatR (l.drop i)) := by
  unfold insL
  rw [flatR_append]
  rfl
theorem shape_of_row {W : World} {b : Nat} {cs : Array Value} {t : TypeId} {x : Nat × Nat} (h : W.heap[b]? = some (.cells cs t x)) : W.shape? b = some (t, cs.size) := by simp [World.shape?, h]
theorem RU.one {W : World} {vb : Nat} {r : Rn} (h : W.heap[vb]? = some (.cells #[.int .i64 (r.1 : Nat), .int .i64 (r.2 : Nat)] 38 (0, 0))) : RU W (some ⟨vb, 0, none⟩) [r] := by
  refine ⟨by simp, fun _ => ⟨vb, 0, rfl, (Array.getElem?_eq_some_iff.1 h).1, fun j u hu => ?_⟩⟩
  rw [Nat.zero_add, cell_of_row _ _ _ _ _ _ h]
  simpa [flatR] using hu
/-- What an Insert answers. -/
def InsAns (base : Nat) (l : List Rn) (w : World) (e : Ending) (w' : World) : Prop := ∃ v, e = .returned v ∧ OR w' base v l ∧ Below base w w'
set_option maxRecDepth 20000 in
set_option maxHeartbeats 8000000 in
theorem Insert_c (base vb : Nat) (v : Value) (l : List Rn) (i : Nat) (r : Rn) (w : World) (ho : OR w base v l) (hb : base ≤ w.heap.size) (hi : i ≤ l.length) (hl : l.length ≤ 10000)
    (hv : w.heap[vb]? = some (.cells #[.int .i64 (r.1 : Nat), .int .i64 (r.2 : Nat)] 38 (0, 0))) (hvb : v.ownBlock ≠ some vb) :
    Calls Try.prog 32 #[v, .int .i64 i, .slice (some ⟨vb, 0, none⟩) 1 1] w (InsAns base (insL l i r) w) := by
  have hru := RU.one hv
  by_cases he : i = l.length
  · obtain ⟨A, c, e, hc, hr⟩ := ho.reads
    subst e
    rw [he, insL_end]
    clear he hi i
    have HO := Lib.hid ho
    have HRU := Lib.hid hru
    have n0 : (l.length : Int) ≤ 10000 := by omega
    have n1 : (l.length : Int) ≤ (c : Int) := by omega
    have n2 : (0 : Int) ≤ (l.length : Int) := by omega
    have q1 : ((l.length : Int) == l.length) = true := by simp
    clear ho hru hv hr
    go_enter Try.func32, Try.ntmps32
    go_wp2_with (at_builtin; refine append_RU base rfl _ _ rfl _ l [r] _ 1 rfl rfl HO.out HRU.out hb (by simp; omega) ?_; intro v5 w5 ho5 hg5 hv5)
    all_goals
      have hb5 : Below base w w5 := (Below.refl _ _).grown hg5 hb (fun k hk => own_base HO.out k hk)
      have HO5 := Lib.hid ho5
      have HB5 := Lib.hid hb5
      clear ho5 hg5 hv5 hb5
      go_wp2_with fail
      go_ret
      exact ⟨_, rfl, HO5.out, HB5.out⟩
  · have hil : i < l.length := by omega
    rcases ho.2 with ⟨_, h0⟩ | ⟨g, cap, cur, e, hbg, hg, hnc, hcm, hcs, htk⟩
    · omega
    subst e
    have hgv : g ≠ vb := fun e => hvb (by rw [e]; rfl)
    have hgs : g < w.heap.size := (Array.getElem?_eq_some_iff.1 hg).1
    have hvs : vb < w.heap.size := (Array.getElem?_eq_some_iff.1 hv).1
    have hq : ((i : Int) == l.length) = false := by simp; omega
    have i0 : (0 : Int) ≤ (i : Int) := by omega
    have i1 : (i : Int) ≤ (l.length : Int) := by omega
    have n0 : (l.length : Int) ≤ 10000 := by omega
    have hmx : cap ≤ 9223372036854775807 := by unfold maxLen at hcm; omega
    obtain ⟨cl, hcl⟩ : ∃ cl : List Value, cur = cl.toArray := ⟨cur.toList, by simp⟩
    subst hcl
    rw [List.size_toArray] at hcs
    have htk : cl.take (l.length * 2) = flatR l := htk
    have hci : ¬ (cap = i) := by omega
    have hfl := flatR_len l
    have hA : cl.take (flatR (l.take i)).length = flatR (l.take i) := by
      rw [flatR_len, List.length_take, Nat.min_eq_left hi, ← flatR_take, ← htk, List.take_take, Nat.min_eq_left (by omega)]
    have hcell : ∀ j u, (flatR l)[j]? = some u → w.cell? ⟨g, j, none⟩ = some u := fun j u hu => by
      rw [cell_of_row _ _ _ _ _ _ hg]
      rw [← htk, List.getElem?_take] at hu
      split at hu
      · simpa using hu
      · cases hu
    have hvc : ∀ j u, (rcells r)[j]? = some u → w.cell? ⟨vb, 0 + j, none⟩ = some u := fun j u hu => by
      rw [Nat.zero_add, cell_of_row _ _ _ _ _ _ hv]
      simpa [rcells] using hu
    by_cases hroom : l.length + 1 ≤ cap
    · have d1 : decide ((cap : Int) < (l.length : Int) + 1) = false := decide_eq_false (by omega)
      have hsa := shape_of_row hv
      have hsb := shape_of_row hg
      have hci1 : ¬ (cap = i + 1) := by omega
      have hov : ∀ lb cb, (callFunc 42 #[.slice (some ⟨vb, 0, none⟩) 1 1, .slice (some ⟨g, (i + 1) * 2, none⟩) lb cb]).run Try.prog w = .ok (.value (.bool false)) w := fun lb cb => by
        rw [run_callFunc_extern Try.func42 (by kernel_rfl) (by kernel_rfl) (by kernel_rfl) (e := Extern.SlicesOverlaps.overlaps #[45, 45] #[4]) (by kernel_rfl),
          Go.Lib.run_overlaps_apart w 45 4 38 Try.underlying45 2 (fun w => by simp [sizeOf, typeInfo, go_sem]; kernel_rfl) ⟨vb, 0, none⟩ ⟨g, (i + 1) * 2, none⟩ 1 1 lb cb (Ne.symm hgv) _ _ _ _ hsa hsb (by rw [List.size_toArray, hcs]; omega) (frozen_of_row _ _ _ _ _ hv) (frozen_of_row _ _ _ _ _ hv)]
        rfl
      have HOV := Lib.hid hov
      have HG := Lib.hid hg
      have HC := Lib.hid hcell
      have HVC := Lib.hid hvc
      have HA := Lib.hid hA
      have HCS := Lib.hid hcs
      have i2 : (i : Int) + 1 ≤ (l.length : Int) + 1 := by omega
      have i3 : (l.length : Int) + 1 ≤ (cap : Int) := by omega
      have i4 : (0 : Int) ≤ (l.length : Int) + 1 := by omega
      have i5 : (0 : Int) ≤ (i : Int) + 1 := by omega
      clear hsa hsb hov hg hcell hvc hA hcs htk hfl ho hru hv
      go_enter Try.func32, Try.ntmps32
      go_wp2_with (simp only [HOV.out])
      have hdl : (flatR (l.drop i)).length = (l.length - i) * 2 := by rw [flatR_len, List.length_drop]
      have hn1 : (flatR (l.drop i)).length = Nat.min (l.length + 1 - i) (l.length - i) * 2 := by
        rw [hdl, show Nat.min (l.length + 1 - i) (l.length - i) = l.length - i from Nat.min_eq_right (by omega)]
      have hsrc1 : ∀ j u, (flatR (l.drop i))[j]? = some u → w.cell? ⟨g, i * 2 + j, none⟩ = some u := fun j u hu => HC.out _ u (by rw [← flatR_drop, List.getElem?_drop] at hu; exact hu)
      have hfit1 : (i + 1) * 2 + (flatR (l.drop i)).length ≤ cl.length := by rw [hdl, HCS.out]; omega
      have hn2 : (rcells r).length = Nat.min 1 (l.length + 1 - i) * 2 := by
        rw [show Nat.min 1 (l.length + 1 - i) = 1 from Nat.min_eq_left (by omega)]; rfl
      have H1 := Lib.hid hn1
      have H2 := Lib.hid hsrc1
      have H3 := Lib.hid hfit1
      have H4 := Lib.hid hn2
      have H5 := Lib.hid (flatR_one (l.drop i))
      have H6 := Lib.hid hdl
      clear hn1 hsrc1 hfit1 hn2 hdl
      have wr1 : IntKind.i64.wrap ((i : Int) + 1) = (i : Int) + 1 := by rw [IntKind.wrap_i64]; omega
      have wr2 : ((i : Int) + 1).toNat = i + 1 := by omega
      have wr3 : (i : Int) ≤ (l.length : Int) + 1 := by omega
      go_still_tail 8, (by kernel_rfl)
      refine wpList_copy_K rfl (.tmp 73) (.tmp 76) 45 45 rfl 38 2 Try.underlying45 size_run g ((i + 1) * 2) _ _ g (i * 2) _ _ rfl rfl cl 38 HG.out (flatR (l.drop i)) ?c1 H2.out H3.out H5.out ?c2
      case c1 => exact H1.out
      intro w4 hg4 hb4
      replace hb4 : w.grownBy w4 (some g) := ⟨hb4.os, hb4.tape, hb4.output, hb4.size, hb4.block⟩
      have hvc4 : ∀ j u, (rcells r)[j]? = some u → w4.cell? ⟨vb, 0 + j, none⟩ = some u := fun j u hu => hb4.cell (a := ⟨vb, 0 + j, none⟩) (HVC.out j u hu) (by simp; exact fun e => hgv e.symm)
      have hfit4 : i * 2 + (rcells r).length ≤ (splice cl ((i + 1) * 2) (flatR (l.drop i))).length := by
        rw [length_splice _ _ _ H3.out]
        have : (rcells r).length = 2 := rfl
        rw [this, HCS.out]
        omega
      have hone4 : ∀ u ∈ rcells r, u.oneCell' = true := flatR_one [r]
      have hb4' : Below base w w4 := (Below.refl _ _).grown hb4 hb (fun k hk => by cases hk; exact hbg)
      have K1 := Lib.hid hvc4
      have K2 := Lib.hid hfit4
      have K3 := Lib.hid hone4
      have K4 := Lib.hid hb4'
      have hs4 := hb4.size
      clear hvc4 hfit4 hone4 hb4' hb4 wr1 wr2 wr3
      go_wp2_with (refine wpList_copy_K rfl (.tmp 80) (.tmp 81) 45 45 rfl 38 2 Try.underlying45 size_run g (i * 2) _ _ vb 0 _ _ rfl rfl _ 38 hg4.out (rcells r) H4.out K1.out K2.out K3.out ?_; intro w5 hg5 hb5)
      have hb5' : Below base w w5 := K4.out.grown hb5 (by omega) (fun k hk => by cases hk; exact hbg)
      have hfin : OR w5 base (.slice (some ⟨g, 0, none⟩) (l.length + 1) cap) (insL l i r) := by
        have hrl : (rcells r).length = 2 := rfl
        have hal : (flatR (l.take i)).length = i * 2 := by rw [flatR_len, List.length_take, Nat.min_eq_left hi]
        refine OR.of_block hg5.out hbg (insL_len l i r hi).symm hroom hmx ?_ ?_
        · rw [length_splice _ _ _ K2.out, length_splice _ _ _ H3.out, HCS.out]
        · rw [insL_flat]
          have h := shifted cl (flatR (l.take i)) (flatR (l.drop i)) (rcells r) HA.out (by rw [hal, hrl, H6.out, HCS.out]; omega)
          rw [hal, hrl, H6.out] at h
          rw [← h]
          congr 1
          · omega
          · congr 2
            omega
      have HB5 := Lib.hid hb5'
      have HF := Lib.hid hfin
      clear hb5' hfin hg5 hb5 hg4
      go_wp2_with fail
      go_ret
      exact ⟨_, rfl, HF.out, HB5.out⟩
    · have d1 : decide ((cap : Int) < (l.length : Int) + 1) = true := decide_eq_true (by omega)
      obtain ⟨i0', hi0, hz0, hz1, hz2⟩ := info_parts info_run
      have hold : (Builtin.firstCells i0'.size i (.slice (some ⟨g, 0, none⟩) i cap)).run Try.prog w.drew = .ok (flatR (l.take i)).toArray w.drew := by
        rw [hz1]
        refine run_firstCells_some w.drew 2 i ⟨g, 0, none⟩ i cap (flatR (l.take i)) (by rw [flatR_len, List.length_take, Nat.min_eq_left hi]) (fun j u hj => ?_)
        rw [Addr.add_lit, Nat.zero_add]
        refine hcell j u ?_
        rw [← flatR_take, List.getElem?_take] at hj
        split at hj
        · exact hj
        · cases hj
      have hik : i + (l.length + 1 - i) = l.length + 1 := by omega
      have hkk : (l.length : Int) + 1 - (i : Int) = ((l.length + 1 - i : Nat) : Int) := by omega
      have hrz := fun ty => Go.Lib.run_append_grow_zeros w 45 3 ty 38 i0' _ .i64 .i64 Try.underlying45 Try.underlying3 hi0 hz0 (some ⟨g, 0, none⟩) i cap (flatR (l.take i)) hold (l.length + 1 - i) (by omega) (by rw [hz1]; omega) (by omega) (by omega) (by rw [hz2]; omega) (by rw [hz2, hik]; exact growslice_fits (by omega) (by omega))
      simp only [hik] at hrz
      have hge := grownCap_ge w (l.length + 1) cap 38
      have hle := grownCap_le_maxLen w (l.length + 1) cap 38 (by unfold maxLen; omega)
      obtain ⟨G, hG⟩ : ∃ G, grownCap w (l.length + 1) cap 38 = G := ⟨_, rfl⟩
      simp only [hG] at hrz hge hle
      obtain ⟨Z, hZ⟩ : ∃ Z : List Value, Z = (Builtin.zeroCells (Value.agg #[.int .i64 0, .int .i64 0]).cells (l.length + 1 - i)).toList ++ (Builtin.zeroCells (Value.agg #[.int .i64 0, .int .i64 0]).cells (G - (l.length + 1))).toList := ⟨_, rfl⟩
      have hZl : Z.length = (G - i) * 2 := by
        have hzc : ∀ n, (Builtin.zeroCells (Value.agg #[.int .i64 0, .int .i64 0]).cells n).toList.length = n * 2 := fun n => by
          rw [Array.length_toList, size_zeroCells]
          rfl
        rw [hZ, List.length_append, hzc, hzc]
        omega
      have hrow : (flatR (l.take i)).toArray ++ Builtin.zeroCells (Value.agg #[.int .i64 0, .int .i64 0]).cells (l.length + 1 - i) ++ Builtin.zeroCells (Value.agg #[.int .i64 0, .int .i64 0]).cells (G - (l.length + 1)) = (flatR (l.take i) ++ Z).toArray := by
        apply Array.toList_inj.1
        rw [hZ]
        simp
      simp only [hrow] at hrz
      have hg1 : (w.drew.alloc (.cells (flatR (l.take i) ++ Z).toArray 38)).heap[w.heap.size]? = some (.cells (flatR (l.take i) ++ Z).toArray 38 (0, 0)) := heap_alloc_new w.drew _
      have hb1 : Below w.heap.size w (w.drew.alloc (.cells (flatR (l.take i) ++ Z).toArray 38)) := (Below.refl _ _).drew.alloc (Nat.le_refl _) _
      obtain ⟨W1, hW1⟩ : ∃ W1, w.drew.alloc (.cells (flatR (l.take i) ++ Z).toArray 38) = W1 := ⟨_, rfl⟩
      rw [hW1] at hg1 hb1
      simp only [hW1, ← hkk] at hrz
      have hgi : ¬ (G = i) := by omega
      have hgi1 : ¬ (G = i + 1) := by omega
      have hc1 : ∀ j u, (rcells r)[j]? = some u → W1.cell? ⟨vb, 0 + j, none⟩ = some u := fun j u hu => by rw [hb1.cell (p := ⟨vb, 0 + j, none⟩) hvs]; exact hvc j u hu
      have hc2 : ∀ j u, (flatR (l.drop i))[j]? = some u → W1.cell? ⟨g, i * 2 + j, none⟩ = some u := fun j u hu => by
        rw [hb1.cell (p := ⟨g, i * 2 + j, none⟩) hgs]
        exact hcell _ u (by rw [← flatR_drop, List.getElem?_drop] at hu; exact hu)
      have hal : (flatR (l.take i)).length = i * 2 := by rw [flatR_len, List.length_take, Nat.min_eq_left hi]
      have hdl : (flatR (l.drop i)).length = (l.length - i) * 2 := by rw [flatR_len, List.length_drop]
      have hrl : (rcells r).length = 2 := rfl
      have hn1 : (rcells r).length = Nat.min 1 (l.length + 1 - i) * 2 := by rw [show Nat.min 1 (l.length + 1 - i) = 1 from Nat.min_eq_left (by omega)]; rfl
      have hf1 : i * 2 + (rcells r).length ≤ (flatR (l.take i) ++ Z).length := by rw [List.length_append, hal, hrl, hZl]; omega
      have hf2 : (i + 1) * 2 + (flatR (l.drop i)).length ≤ (splice (flatR (l.take i) ++ Z) (i * 2) (rcells r)).length := by rw [length_splice _ _ _ hf1, List.length_append, hal, hdl, hZl]; omega
      have hn2 : (flatR (l.drop i)).length = Nat.min (l.length - i) (l.length - i) * 2 := by rw [hdl, show Nat.min (l.length - i) (l.length - i) = l.length - i from Nat.min_self _]
      have hfin : (splice (splice (flatR (l.take i) ++ Z) (i * 2) (rcells r)) ((i + 1) * 2) (flatR (l.drop i))).take ((l.length + 1) * 2) = flatR (insL l i r) := by
        rw [insL_flat]
        have h := filled (flatR (l.take i)) Z (flatR (l.drop i)) (rcells r) (by rw [hrl, hdl, hZl]; omega)
        rw [hal, hrl, hdl] at h
        rw [show (i + 1) * 2 = i * 2 + 2 by omega, show (l.length + 1) * 2 = i * 2 + 2 + (l.length - i) * 2 by omega]
        exact h
      have hfl2 : (splice (splice (flatR (l.take i) ++ Z) (i * 2) (rcells r)) ((i + 1) * 2) (flatR (l.drop i))).length = G * 2 := by
        rw [length_splice _ _ _ hf2, length_splice _ _ _ hf1, List.length_append, hal, hZl]
        omega
      have HRZ := Lib.hid hrz
      have HG1 := Lib.hid hg1
      have HB1 := Lib.hid hb1
      have HC1 := Lib.hid hc1
      have HC2 := Lib.hid hc2
      have HN1 := Lib.hid hn1
      have HN2 := Lib.hid hn2
      have HF1 := Lib.hid hf1
      have HF2 := Lib.hid hf2
      have HFIN := Lib.hid hfin
      have HFL := Lib.hid hfl2
      have H5 := Lib.hid (flatR_one (l.drop i))
      have H3 := Lib.hid (show ∀ u ∈ rcells r, u.oneCell' = true from flatR_one [r])
      have hgm : (G : Int) ≤ 9223372036854775807 := by unfold maxLen at hle; omega
      have hgn : (l.length : Int) + 1 ≤ (G : Int) := by omega
      have i2 : (i : Int) ≤ (l.length : Int) + 1 := by omega
      have i5 : (0 : Int) ≤ (i : Int) + 1 := by omega
      have i6 : (i : Int) + 1 ≤ (l.length : Int) + 1 := by omega
      have i7 : ((l.length : Int) + 1 - (i : Int)) = ((l.length + 1 - i : Nat) : Int) := by omega
      have HI7 := Lib.hid i7
      have hs1 := hb1.size
      clear hrz hg1 hb1 hc1 hc2 hn1 hn2 hf1 hf2 hfin hfl2 hal hdl hrl hold hik hkk hG hZ hZl hrow hW1 hg hcell hvc hA hcs htk hfl ho hru hv i7 hz0 hz1 hz2 hi0
      go_enter Try.func32, Try.ntmps32
      go_wp2_with (first
        | (at_builtin; refine Go.Lib.wpList_append_run _ rfl _ _ _ _ rfl _ _ rfl rfl _ _ (HRZ.out _) ?_)
        | (refine wpList_copy_K rfl (.tmp 43) (.tmp 44) 45 45 rfl 38 2 Try.underlying45 size_run w.heap.size (i * 2) _ _ vb 0 _ _ rfl rfl _ 38 HG1.out (rcells r) HN1.out HC1.out HF1.out H3.out ?_; intro w5 hg5 hb5))
      have hc5 : ∀ j u, (flatR (l.drop i))[j]? = some u → w5.cell? ⟨g, i * 2 + j, none⟩ = some u := fun j u hu => hb5.cell (a := ⟨g, i * 2 + j, none⟩) (HC2.out j u hu) (by simp; omega)
      have hb5' : Below base w w5 := (HB1.out.mono hb).grown hb5 (by omega) (fun k hk => by cases hk; exact hb)
      have HC5 := Lib.hid hc5
      have HB5 := Lib.hid hb5'
      have hs5 := hb5.size
      have wr1 : IntKind.i64.wrap ((i : Int) + 1) = (i : Int) + 1 := by rw [IntKind.wrap_i64]; omega
      have wr2 : ((i : Int) + 1).toNat = i + 1 := by omega
      have wr3 : (i : Int) ≤ (l.length : Int) + 1 := by omega
      clear hc5 hb5' hb5
      go_still_tail 8, (by kernel_rfl)
      refine wpList_copy_K rfl (.tmp 50) (.tmp 53) 45 45 rfl 38 2 Try.underlying45 size_run w.heap.size ((i + 1) * 2) _ _ g (i * 2) _ _ rfl rfl _ 38 hg5.out (flatR (l.drop i)) ?d1 HC5.out HF2.out H5.out ?d2
      case d1 => exact HN2.out
      intro w6 hg6 hb6
      clear wr1 wr2 wr3
      have hb6' : Below base w w6 := HB5.out.grown (w := w5) ⟨hb6.os, hb6.tape, hb6.output, hb6.size, hb6.block⟩ (by omega) (fun k hk => by cases hk; exact hb)
      have hor : OR w6 base (.slice (some ⟨w.heap.size, 0, none⟩) (l.length + 1) G) (insL l i r) :=
        OR.of_block hg6.out hb (insL_len l i r hi).symm (by omega) (by unfold maxLen at hle; omega) HFL.out HFIN.out
      have HB6 := Lib.hid hb6'
      have HOR := Lib.hid hor
      clear hb6' hor hb6 hg6 hg5
      go_wp2_with fail
      go_ret
      exact ⟨_, rfl, HOR.out, HB6.out⟩
end Go.Proofs.Ytdfgaomlahpblaa.F
