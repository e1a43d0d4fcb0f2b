/- Forks of a cutter, walked. -/
import Derived.Test.YtbckibjpaiealaaGm0
set_option linter.unusedVariables false
set_option linter.unusedSimpArgs false
namespace Go.Proofs.Ytbckibjpaiealaa.F
open Go.RowKit Go.Proofs.YtbckibjpaiealaaW.PrintWords
attribute [local go_sem ↓] Go.wp_at_zero Go.wp_at_succ

set_option maxRecDepth 20000 in
set_option maxHeartbeats 20000000 in
theorem GearForks_walk (mn av mx : Int) (seed : Nat) (A1 A2 A3 : Option Addr) (d1 d2 d3 : Nat) (p1 p2 p3 : List Nat) (w : World) (hs : seed < 18446744073709551616)
    (hr1 : RN .u8 w A1 p1) (hp1 : ∀ x ∈ p1, x < 256) (hc1 : p1.length ≤ d1) (hr2 : RN .u8 w A2 p2) (hp2 : ∀ x ∈ p2, x < 256) (hc2 : p2.length ≤ d2) (hr3 : RN .u8 w A3 p3) (hp3 : ∀ x ∈ p3, x < 256) (hc3 : p3.length ≤ d3) :
    Calls Try.prog 8 #[.agg #[.int .i64 mn, .int .i64 av, .int .i64 mx], .int .u64 seed, .slice A1 p1.length d1, .slice A2 p2.length d2, .slice A3 p3.length d3] w fun e w' => e = .returned (.bool true) ∧ Below w.heap.size w w' := by
  have hsm1 := fun W (hr : RN .u8 W A1 p1) => small_c A1 d1 p1 W hr hc1
  have hrd1 := fun W (hr : RN .u8 W A1 p1) => take_readF hr
  have hq1 : ∀ x ∈ p1.take 3000, x < 256 := fun x hx => hp1 x (List.mem_of_mem_take hx)
  have hl1 : (p1.take 3000).length ≤ 3000 := by rw [List.length_take]; omega
  have hbk1 := hr1.blockLt
  have hpos1 : 0 < (p1.take 3000).length → 0 < p1.length := fun h => by rw [List.length_take] at h; omega
  obtain ⟨q1, hqe⟩ : ∃ q, p1.take 3000 = q := ⟨_, rfl⟩
  rw [hqe] at hsm1 hrd1 hq1 hl1 hpos1
  have hbl1 : ∀ a, A1 = some a → 0 < q1.length → a.block < w.heap.size := fun a ha h0 => hbk1 a ha (hpos1 h0)
  clear hqe hp1 hbk1 hpos1
  have SM1 := Lib.hid hsm1
  have RD1 := Lib.hid hrd1
  have QL1 := Lib.hid hl1
  have HQ1 := Lib.hid hq1
  have HBL1 := Lib.hid hbl1
  clear hsm1 hrd1 hl1 hq1 hbl1
  have hsm2 := fun W (hr : RN .u8 W A2 p2) => small_c A2 d2 p2 W hr hc2
  have hrd2 := fun W (hr : RN .u8 W A2 p2) => take_readF hr
  have hq2 : ∀ x ∈ p2.take 3000, x < 256 := fun x hx => hp2 x (List.mem_of_mem_take hx)
  have hl2 : (p2.take 3000).length ≤ 3000 := by rw [List.length_take]; omega
  have hbk2 := hr2.blockLt
  have hpos2 : 0 < (p2.take 3000).length → 0 < p2.length := fun h => by rw [List.length_take] at h; omega
  obtain ⟨q2, hqe⟩ : ∃ q, p2.take 3000 = q := ⟨_, rfl⟩
  rw [hqe] at hsm2 hrd2 hq2 hl2 hpos2
  have hbl2 : ∀ a, A2 = some a → 0 < q2.length → a.block < w.heap.size := fun a ha h0 => hbk2 a ha (hpos2 h0)
  clear hqe hp2 hbk2 hpos2
  have SM2 := Lib.hid hsm2
  have RD2 := Lib.hid hrd2
  have QL2 := Lib.hid hl2
  have HQ2 := Lib.hid hq2
  have HBL2 := Lib.hid hbl2
  clear hsm2 hrd2 hl2 hq2 hbl2
  have hsm3 := fun W (hr : RN .u8 W A3 p3) => small_c A3 d3 p3 W hr hc3
  have hrd3 := fun W (hr : RN .u8 W A3 p3) => take_readF hr
  have hq3 : ∀ x ∈ p3.take 3000, x < 256 := fun x hx => hp3 x (List.mem_of_mem_take hx)
  have hl3 : (p3.take 3000).length ≤ 3000 := by rw [List.length_take]; omega
  have hbk3 := hr3.blockLt
  have hpos3 : 0 < (p3.take 3000).length → 0 < p3.length := fun h => by rw [List.length_take] at h; omega
  obtain ⟨q3, hqe⟩ : ∃ q, p3.take 3000 = q := ⟨_, rfl⟩
  rw [hqe] at hsm3 hrd3 hq3 hl3 hpos3
  have hbl3 : ∀ a, A3 = some a → 0 < q3.length → a.block < w.heap.size := fun a ha h0 => hbk3 a ha (hpos3 h0)
  clear hqe hp3 hbk3 hpos3
  have SM3 := Lib.hid hsm3
  have RD3 := Lib.hid hrd3
  have QL3 := Lib.hid hl3
  have HQ3 := Lib.hid hq3
  have HBL3 := Lib.hid hbl3
  clear hsm3 hrd3 hl3 hq3 hbl3
  have htc := refTable_c seed hs
  have hz := zeroT
  obtain ⟨tl, htl⟩ : ∃ tl : List Value, (gtab seed).map (encN .u32) = tl := ⟨_, rfl⟩
  have htt : tabA (gtab seed) = tl.toArray := by unfold tabA; rw [htl]
  have hll : tl.length = 256 := by rw [← htl, List.length_map, gtab_len]
  have ho1 : ∀ v ∈ tl, v.oneCell' = true := by
    intro v hv
    rw [← htl] at hv
    obtain ⟨x, _, rfl⟩ := List.mem_map.1 hv
    rfl
  obtain ⟨W0, hW0⟩ : ∃ W0, w.alloc (.cells #[.int .i64 mn, .int .i64 av, .int .i64 mx] 24) = W0 := ⟨_, rfl⟩
  have hB0 : Below w.heap.size w W0 := by rw [← hW0]; exact (Below.refl _ _).alloc (Nat.le_refl _) _
  have hs0 : W0.heap.size = w.heap.size + 1 := by rw [← hW0]; simp
  have hg : W0.heap[w.heap.size]? = some (.cells #[.int .i64 mn, .int .i64 av, .int .i64 mx] 24 (0, 0)) := by rw [← hW0]; exact heap_alloc_new _ _
  rw [htt] at htc
  obtain ⟨sv, hsv⟩ : ∃ sv : Int, (seed : Int) = sv := ⟨_, rfl⟩
  rw [hsv] at htc ⊢
  have HT := Lib.hid htc
  have HG := Lib.hid hg
  have HTT := Lib.hid htt
  clear htc hg htt hsv
  go_enter Try.func8, Try.ntmps8
  go_wp2_with fail
  refine (HT.out _).mono ?_
  rintro e w1 ⟨rfl, hb1⟩
  have hs1 := hb1.size
  have hi2 : (Try.prog.info? 27).map (·.size) = some tl.toArray.size := by rw [List.size_toArray, hll]; exact infoT
  have hzs : zeros256.size = tl.toArray.size := (Array.size_replicate : zeros256.size = 256).trans (by rw [List.size_toArray]; exact hll.symm)
  have hoc : tl.toArray.all (·.oneCell') = true := by rw [List.all_toArray]; exact List.all_eq_true.2 ho1
  have HI := Lib.hid hi2
  have HZS := Lib.hid hzs
  have HOC := Lib.hid hoc
  clear hi2 hzs hoc
  have hn : (w1.alloc (.cells zeros256 27)).heap[w1.heap.size]? = some (.cells zeros256 27 (0, 0)) := heap_alloc_new _ _
  obtain ⟨W2, hW2⟩ : ∃ W2, (w1.alloc (.cells zeros256 27)).setRow w1.heap.size tl.toArray = W2 := ⟨_, rfl⟩
  have hB1 : Below w1.heap.size w1 W2 := by rw [← hW2]; exact below_setRow ((Below.refl _ _).alloc (Nat.le_refl _) _) (Nat.le_refl _) _
  have hg2 : W2.heap[w1.heap.size]? = some (.cells tl.toArray 27 (0, 0)) := by rw [← hW2]; exact setRow_heap _ _ _ _ _ _ hn
  have hs2 : W2.heap.size = w1.heap.size + 1 := by rw [← hW2]; simp
  have hcu : W2.heap[w.heap.size]? = some (.cells #[.int .i64 mn, .int .i64 av, .int .i64 mx] 24 (0, 0)) := (hB1.block _ (by omega)).trans ((hb1.block _ (by omega)).trans HG.out)
  have HN := Lib.hid hn
  have HW2 := Lib.hid hW2
  have hbw2 : Below w.heap.size w W2 := (hB0.trans (hb1.mono hB0.size)).trans (hB1.mono (by omega))
  have HBW2 := Lib.hid hbw2
  have HG2 := Lib.hid hg2
  have HCU := Lib.hid hcu
  clear hn hW2 hg2 hcu hb1 hB1 hbw2 hB0 hW0
  go_wp2_with (first | rw [HW2.out] | refine wpList_store_row rfl 27 (.tmp 11) (.tmp 27) rfl w1.heap.size rfl tl.toArray zeros256 rfl 27 HN.out HI.out HZS.out HOC.out ?_)
  refine (WriteG_nil _ _).mono ?_
  rintro e w3 ⟨rfl, hb3⟩
  have hs3 := hb3.size
  have hcu3 := (hb3.block _ (by omega)).trans HCU.out
  have c0 : w3.cell? ⟨w.heap.size, 0, none⟩ = some (.int .i64 mn) := by rw [cell_of_row _ _ _ _ _ _ hcu3]; rfl
  have c1 : w3.cell? ⟨w.heap.size, 1, none⟩ = some (.int .i64 av) := by rw [cell_of_row _ _ _ _ _ _ hcu3]; rfl
  have c2 : w3.cell? ⟨w.heap.size, 2, none⟩ = some (.int .i64 mx) := by rw [cell_of_row _ _ _ _ _ _ hcu3]; rfl
  have HG3 := Lib.hid ((hb3.block _ (by omega)).trans HG2.out)
  have HB3 := Lib.hid (HBW2.out.trans (hb3.mono HBW2.out.size))
  clear hb3 hcu3
  go_wp2_with fail
  refine (EndG_nil _).mono ?_
  rintro e w4 ⟨rfl, rfl⟩
  go_wp2_with fail
  refine (HeldG_nil _).mono ?_
  rintro e w4 ⟨rfl, rfl⟩
  go_wp2_with fail
  refine (ForkG_nil _).mono ?_
  rintro e w4 ⟨rfl, rfl⟩
  go_wp2_with (refine wpList_load_row rfl 27 (.tmp 11) rfl w1.heap.size rfl 27 tl.toArray (0, 0) _ HG3.out Try.underlying27 rfl HI.out ?_)
  by_cases hcut0 : cutOk mn av mx = false
  · have hnb := fun W => New_bad mn av mx (gtab seed) W (gtab_len seed) hcut0
    rw [HTT.out] at hnb
    have HNB := Lib.hid hnb
    clear hnb hcut0
    refine (HNB.out _).mono ?_
    rintro e w5 ⟨rfl, hb5⟩
    have HB5 := Lib.hid (HB3.out.trans (hb5.mono HB3.out.size))
    clear hb5
    go_wp2_with fail
    refine (live_c _).mono ?_
    rintro e w6 ⟨rfl, hb6⟩
    have HB6 := Lib.hid (HB5.out.trans (hb6.mono HB5.out.size))
    clear hb6
    go_wp2_with fail
    go_ret
    exact ⟨rfl, HB6.out⟩
  have hcut : cutOk mn av mx = true := by simpa using hcut0
  clear hcut0
  have hgl := gtab_lt seed
  have hg0 := gtab_len seed
  obtain ⟨a, b, d, rfl, rfl, rfl⟩ := cut_nat hcut
  have hmn : 1 ≤ a ∧ a ≤ d ∧ d ≤ 512 ∧ 1 ≤ b ∧ b ≤ 256 := by
    unfold cutOk at hcut
    simp only [Bool.and_eq_true, decide_eq_true_eq] at hcut
    have := isPow_dvd hcut.2
    omega
  have hnew := fun W => New_h a b d (gtab seed) W hg0 hcut
  have hsp := fun (A : Option Addr) (c : Nat) (p : List Nat) (W : World) (hr : RN .u8 W A p) (hp : ∀ x ∈ p, x < 256) (hn : p.length ≤ 100000) => SplitF_c a b d (gtab seed) A c p W hg0 hgl hcut hr hp hn
  rw [HTT.out] at hsp hnew
  have HSP := Lib.hid hsp
  have HNEW := Lib.hid hnew
  have hilen : (Try.prog.info? 27).map (·.size) = some tl.length := by rw [hll]; exact infoT
  have hu27 := Try.underlying27
  clear hsp hnew hgl
  refine (HNEW.out _).mono ?_
  rintro e w5 ⟨B, rfl, hB, hch5, hb5⟩
  have hs5 := hb5.size
  have k0 := cell_under hb5 (by omega) c0
  have k1 := cell_under hb5 (by omega) c1
  have k2 := cell_under hb5 (by omega) c2
  have hbw5 := HB3.out.trans (hb5.mono HB3.out.size)
  have HG5 := Lib.hid ((hb5.block _ (by omega)).trans HG3.out)
  have HB5 := Lib.hid hbw5
  have HR1 := Lib.hid (hr1.below hbw5)
  have HR2 := Lib.hid (hr2.below hbw5)
  have HR3 := Lib.hid (hr3.below hbw5)
  have HCH5 := Lib.hid hch5
  have hwB : w.heap.size < B := by omega
  have hw1B : w1.heap.size < B := by omega
  have hB5l := hch5.lt
  have HN1 := Lib.hid (show ∀ x, A1 = some x → 0 < q1.length → x.block < w.heap.size from HBL1.out)
  clear hbw5 hb5 hch5 c0 c1 c2 hr1 hr2 hr3 HG3 HB3 HNEW
  go_wp2_with fail
  refine (SM1.out _ HR1.out).mono ?_
  rintro e w6 ⟨rfl, rfl⟩
  go_wp2_with fail
  refine (SM2.out _ HR2.out).mono ?_
  rintro e w6 ⟨rfl, rfl⟩
  go_wp2_with fail
  refine (SM3.out _ HR3.out).mono ?_
  rintro e w6 ⟨rfl, rfl⟩
  have HQ1r := Lib.hid (RD1.out _ HR1.out)
  have HQ2r := Lib.hid (RD2.out _ HR2.out)
  have HQ3r := Lib.hid (RD3.out _ HR3.out)
  clear SM1 SM2 SM3 RD1 RD2 RD3 HR1 HR2 HR3
  go_wp2_with fail
  refine (Write_h w6 B a b d (gtab seed) [] A1 d1 q1 hg0 hmn.2.2.2.1 hmn.2.2.2.2 HCH5.out HQ1r.out HQ1.out (fun x hx h0 => by have := HBL1.out x hx h0; exact ⟨by omega, by omega⟩) (by have := QL1.out; simp only [List.length_nil]; omega)).mono ?_
  rintro e w7 ⟨vo1, okc1, rfl, hso1, hok1, hch7, hk7⟩
  obtain ⟨f1, hf1⟩ : ∃ f1, q1.foldl (gstep a b d (gtab seed)) ([], []) = f1 := ⟨_, rfl⟩
  have hfl1 := fold_len (av := b) (tb := gtab seed) (p := q1) (xs := []) hmn.1 hmn.2.1 (by simp; omega)
  rw [hf1] at hch7 hfl1
  have hs7 := hk7.size
  have j0 := (cell_move (a := ⟨w.heap.size, 0, none⟩) (hk7.block w.heap.size (by omega) (by omega))).trans k0
  have j1 := (cell_move (a := ⟨w.heap.size, 1, none⟩) (hk7.block w.heap.size (by omega) (by omega))).trans k1
  have j2 := (cell_move (a := ⟨w.heap.size, 2, none⟩) (hk7.block w.heap.size (by omega) (by omega))).trans k2
  have HG7 := Lib.hid ((hk7.block w1.heap.size (by omega) (by omega)).trans HG5.out)
  have HB7 := Lib.hid (show Below w.heap.size w w7 from ⟨hk7.os.trans HB5.out.os, hk7.tape.trans HB5.out.tape, hk7.output.trans HB5.out.output, by have := HB5.out.size; omega, fun k hk => (hk7.block k (by omega) (by omega)).trans (HB5.out.block k hk)⟩)
  have HQ17 := Lib.hid (HQ1r.out.notC HBL1.out (by omega) hk7)
  have HQ27 := Lib.hid (HQ2r.out.notC HBL2.out (by omega) hk7)
  have HQ37 := Lib.hid (HQ3r.out.notC HBL3.out (by omega) hk7)
  have HCH7 := Lib.hid hch7
  have HF1 := Lib.hid hf1
  have HFL1 := Lib.hid hfl1
  clear hso1 hok1 hch7 hk7 k0 k1 k2 HG5 HB5 HQ1r HQ2r HQ3r HCH5 hf1 hfl1
  go_wp2_with fail
  refine (Fork_h w7 B a b d (gtab seed) f1.2 hg0 HCH7.out (by have := HFL1.out.1; omega)).mono ?_
  rintro e w8 ⟨B2, rfl, hB2, hch8, hb8⟩
  have hs8 := hb8.size
  have hBl7 := HCH7.out.lt
  have HCH8 := Lib.hid hch8
  have HCB8 := Lib.hid (HCH7.out.below hb8)
  have k0 := cell_under hb8 (by omega) j0
  have k1 := cell_under hb8 (by omega) j1
  have k2 := cell_under hb8 (by omega) j2
  have HG8 := Lib.hid ((hb8.block _ (by omega)).trans HG7.out)
  have HB8 := Lib.hid (HB7.out.trans (hb8.mono HB7.out.size))
  have HQ18 := Lib.hid (HQ17.out.below hb8)
  have HQ28 := Lib.hid (HQ27.out.below hb8)
  have HQ38 := Lib.hid (HQ37.out.below hb8)
  have hne : B ≠ B2 := by omega
  have HNE := Lib.hid hne
  clear hch8 hb8 j0 j1 j2 HG7 HB7 HQ17 HQ27 HQ37 HCH7 hne
  go_wp2_with fail
  refine (Write_h w8 B2 a b d (gtab seed) f1.2 A2 d2 q2 hg0 hmn.2.2.2.1 hmn.2.2.2.2 HCH8.out HQ28.out HQ2.out (fun x hx h0 => by have := HBL2.out x hx h0; exact ⟨by omega, by omega⟩) (by have := QL2.out; have := HFL1.out.1; omega)).mono ?_
  rintro e w9 ⟨vo2, okc2, rfl, hso2, hok2, hch9, hk9⟩
  have hs9 := hk9.size
  have j0 := (cell_move (a := ⟨w.heap.size, 0, none⟩) (hk9.block w.heap.size (by omega) (by omega))).trans k0
  have j1 := (cell_move (a := ⟨w.heap.size, 1, none⟩) (hk9.block w.heap.size (by omega) (by omega))).trans k1
  have j2 := (cell_move (a := ⟨w.heap.size, 2, none⟩) (hk9.block w.heap.size (by omega) (by omega))).trans k2
  have HG9 := Lib.hid ((hk9.block w1.heap.size (by omega) (by omega)).trans HG8.out)
  have HB9 := Lib.hid (show Below w.heap.size w w9 from ⟨hk9.os.trans HB8.out.os, hk9.tape.trans HB8.out.tape, hk9.output.trans HB8.out.output, by have := HB8.out.size; omega, fun k hk => (hk9.block k (by omega) (by omega)).trans (HB8.out.block k hk)⟩)
  have HCB9 := Lib.hid (HCB8.out.apart HCH8.out HNE.out hk9)
  have HQ19 := Lib.hid (HQ18.out.notC HBL1.out (by omega) hk9)
  have HQ39 := Lib.hid (HQ38.out.notC HBL3.out (by omega) hk9)
  clear hso2 hok2 hch9 hk9 k0 k1 k2 HG8 HB8 HQ18 HQ28 HQ38 HCH8 HCB8 HNE
  go_wp2_with fail
  refine (Write_h w9 B a b d (gtab seed) f1.2 A3 d3 q3 hg0 hmn.2.2.2.1 hmn.2.2.2.2 HCB9.out HQ39.out HQ3.out (fun x hx h0 => by have := HBL3.out x hx h0; exact ⟨by omega, by omega⟩) (by have := QL3.out; have := HFL1.out.1; omega)).mono ?_
  rintro e w10 ⟨vo3, okc3, rfl, hso3, hok3, hch10, hk10⟩
  obtain ⟨g3, hg3⟩ : ∃ g3, q3.foldl (gstep a b d (gtab seed)) ([], f1.2) = g3 := ⟨_, rfl⟩
  rw [hg3] at hso3 hch10
  have hs10 := hk10.size
  have k0 := (cell_move (a := ⟨w.heap.size, 0, none⟩) (hk10.block w.heap.size (by omega) (by omega))).trans j0
  have k1 := (cell_move (a := ⟨w.heap.size, 1, none⟩) (hk10.block w.heap.size (by omega) (by omega))).trans j1
  have k2 := (cell_move (a := ⟨w.heap.size, 2, none⟩) (hk10.block w.heap.size (by omega) (by omega))).trans j2
  have HG10 := Lib.hid ((hk10.block w1.heap.size (by omega) (by omega)).trans HG9.out)
  have HB10 := Lib.hid (show Below w.heap.size w w10 from ⟨hk10.os.trans HB9.out.os, hk10.tape.trans HB9.out.tape, hk10.output.trans HB9.out.output, by have := HB9.out.size; omega, fun k hk => (hk10.block k (by omega) (by omega)).trans (HB9.out.block k hk)⟩)
  have HQ110 := Lib.hid (HQ19.out.notC HBL1.out (by omega) hk10)
  have HQ310 := Lib.hid (HQ39.out.notC HBL3.out (by omega) hk10)
  obtain ⟨X3, x3, rfl, hx3, rr3⟩ := hso3.reads
  have RR3 := Lib.hid rr3
  have HCH10 := Lib.hid hch10
  have HG3 := Lib.hid hg3
  have hw10 : w1.heap.size < w10.heap.size := by omega
  clear hso3 hok3 hch10 hk10 j0 j1 j2 HG9 HB9 HQ19 HQ39 HCB9 hg3 rr3
  go_wp2_with (refine wpList_load_row rfl 27 (.tmp 11) rfl w1.heap.size rfl 27 tl.toArray (0, 0) _ HG10.out Try.underlying27 rfl HI.out ?_)
  refine (HSP.out A1 d1 q1 w10 HQ110.out HQ1.out (by have := QL1.out; omega)).mono ?_
  rintro e w11 ⟨v11, B11, b11, okc11, rfl, hso11, hr11, hb11⟩
  rw [HF1.out] at hso11 ⊢
  have hs11 := hb11.size
  have j0 := cell_under hb11 (by omega) k0
  have j1 := cell_under hb11 (by omega) k1
  have j2 := cell_under hb11 (by omega) k2
  have jr := range_of_block ((hb11.block _ (by omega)).trans HG10.out)
  have HB11 := Lib.hid (HB10.out.trans (hb11.mono HB10.out.size))
  have HQ111 := Lib.hid (HQ110.out.below hb11)
  have HQ311 := Lib.hid (HQ310.out.below hb11)
  have RR3b := Lib.hid (RR3.out.below hb11)
  have HCH11 := Lib.hid (HCH10.out.below hb11)
  obtain ⟨X11, x11, rfl, hx11, rr11⟩ := hso11.reads
  have RR11 := Lib.hid rr11
  clear hso11 hr11 hb11 k0 k1 k2 HG10 HB10 HQ110 HQ310 RR3 HCH10 rr11
  go_wp2_with fail
  have hO : OwnN .u8 5 (w11.alloc (.cells #[] 5)).drew w11.heap.size (.slice (some ⟨w11.heap.size, 0, none⟩) 0 0) [] := (empty_lit w11).move (fun _ _ => rfl)
  have hbA : Below w11.heap.size w11 (w11.alloc (.cells #[] 5)).drew := ((Below.refl _ _).alloc (Nat.le_refl _) _).drew
  have hsA : w11.heap.size ≤ (w11.alloc (.cells #[] 5)).drew.heap.size := hbA.size
  have HO := Lib.hid hO
  have HBA := Lib.hid hbA
  have a0 := cell_under hbA (by omega) j0
  have a1 := cell_under hbA (by omega) j1
  have a2 := cell_under hbA (by omega) j2
  have ar := range_under jr hbA (by omega)
  have HQA := Lib.hid (HQ111.out.below hbA)
  have hk1 : (([] : List Nat).length + q1.length) * 1 ≤ 140737488355328 := by have := QL1.out; simp; omega
  have hk2 : (q1.length + q3.length) * 1 ≤ 140737488355328 := by have := QL1.out; have := QL3.out; omega
  have hk3 : (q1 ++ q3).length ≤ 100000 := by have := QL1.out; have := QL3.out; rw [List.length_append]; omega
  have HK1 := Lib.hid hk1
  have HK2 := Lib.hid hk2
  have hpb := app_ltF HQ1.out HQ3.out
  obtain ⟨pq, hpq⟩ : ∃ pq, q1 ++ q3 = pq := ⟨_, rfl⟩
  rw [hpq] at hk3 hpb
  have HPQ := Lib.hid hpq
  have HK3 := Lib.hid hk3
  have HQ13 := Lib.hid hpb
  clear hO hbA hk1 hk2 hk3 hpb hpq
  go_region_held_law (fun w' => w'.cell? ⟨w.heap.size, 0, none⟩ = some (.int .i64 (a : Int)) ∧ w'.cell? ⟨w.heap.size, 1, none⟩ = some (.int .i64 (b : Int)) ∧ w'.cell? ⟨w.heap.size, 2, none⟩ = some (.int .i64 (d : Int)) ∧ w'.rangeAt w1.heap.size 0 tl)
    (first | exact ⟨M0, M1, M2, M3⟩ | exact ⟨L0, L1, L2, L3⟩ | exact ⟨K30, K31, K32, K33⟩ | exact ⟨a0, a1, a2, ar⟩ | exact ⟨j0, j1, j2, jr⟩)
    (first
      | (refine step_append_NN (W := (w11.alloc (.cells #[] 5)).drew) w11.heap.size (by rfl) (.tmp 94) (.tmp 95) 32 5 .u8 1 (by rfl) Try.underlying32 info_u8 (by decide) (.slice (some ⟨w11.heap.size, 0, none⟩) 0 0) [] q1 A1 d1 (by rfl) (by rfl) HO.out HQA.out hsA HK1.out ?_; intro v12 w12 ho12 hg12 hat12; rw [List.nil_append] at ho12; have hb12 := HBA.out.trans (below_grown HO.out hsA hg12); have hs12 : w11.heap.size ≤ w12.heap.size := hb12.size; have K30 := cell_under hb12 (by omega) j0; have K31 := cell_under hb12 (by omega) j1; have K32 := cell_under hb12 (by omega) j2; have K33 := range_under jr hb12 (by omega))
      | (refine step_append_NN (W := w12) w11.heap.size (by rfl) (.tmp 96) (.tmp 97) 32 5 .u8 1 (by rfl) Try.underlying32 info_u8 (by decide) v12 q1 q3 A3 d3 (by rfl) (by rfl) ho12 (HQ311.out.below hb12) hs12 HK2.out ?_; intro v13 w13 ho13 hg13 hat13; have hb13 := hb12.trans (below_grown ho12 hs12 hg13); rw [HPQ.out] at ho13; obtain ⟨X13, x13, rfl, hx13, hr13, hn13⟩ := ho13.form; have hs13 : w11.heap.size ≤ w13.heap.size := hb13.size; have L0 := cell_under hb13 (by omega) j0; have L1 := cell_under hb13 (by omega) j1; have L2 := cell_under hb13 (by omega) j2; have L3 := range_under jr hb13 (by omega))
      | (go_simp; go_at_call 18; refine (HSP.out X13 x13 pq w13 hr13 HQ13.out HK3.out).mono ?_; rintro e w14 ⟨v14, B14, b14, okc14, rfl, hso14, hr14, hb14⟩; have M0 := cell_under hb14 (by omega) L0; have M1 := cell_under hb14 (by omega) L1; have M2 := cell_under hb14 (by omega) L2; have M3 := range_under L3 hb14 (by omega)))
  have hb14' := hb13.trans (hb14.mono hs13)
  have hs14 := hb14'.size
  have hF : pq.foldl (gstep a b d (gtab seed)) ([], []) = (f1.1 ++ g3.1, g3.2) := by
    rw [← HPQ.out, List.foldl_append, HF1.out]
    have h := fold_pre (mn := a) (av := b) (mx := d) (tb := gtab seed) q3 f1.1 [] f1.2
    rw [List.append_nil, HG3.out] at h
    exact h
  obtain ⟨F, hFF⟩ : ∃ F, pq.foldl (gstep a b d (gtab seed)) ([], []) = F := ⟨_, rfl⟩
  rw [hFF] at hso14 hF ⊢
  have hF2 : F.2 = g3.2 := by rw [hF]
  have hF1 : F.1 = f1.1 ++ g3.1 := by rw [hF]
  rw [hF2]
  obtain ⟨wh, hwh⟩ : ∃ wh, F.1 = wh := ⟨_, rfl⟩
  rw [hwh] at hso14 hF1
  obtain ⟨X14, x14, rfl, hx14, rr14⟩ := hso14.reads
  obtain ⟨i9, hi9, hsz9⟩ := info_sl'
  have hwl : wh.length = f1.1.length + g3.1.length := by rw [hF1, List.length_append]
  obtain ⟨X15, hx15, hy15⟩ := RR.cut (P := Try.prog) 34 32 Try.underlying34 hi9 hsz9 X14 wh.length x14 f1.1.length (by omega) hx14
  rw [show wh.length - f1.1.length = g3.1.length by omega] at hx15
  have q15 := fun W (h : RR W X14 wh) => hy15 W wh rfl h
  rw [hF1, List.drop_left] at q15
  rw [← hF1] at q15
  have hm14 := rr14.max
  have t1 : (f1.1.length : Int) ≤ wh.length := by omega
  have t2 : decide ((f1.1.length : Int) ≤ wh.length) = true := decide_eq_true t1
  have t3 : decide (f1.1.length ≤ wh.length) = true := decide_eq_true (by omega)
  have t4 : (wh.length : Int) ≤ x14 := by omega
  have t5 : (0 : Int) ≤ (f1.1.length : Int) := by omega
  have Q15 := Lib.hid q15
  have R14 := Lib.hid rr14
  have RR3c := Lib.hid (RR3b.out.below hb14')
  have HCH14 := Lib.hid (HCH11.out.below hb14')
  have HB14 := Lib.hid (HB11.out.trans (hb14'.mono HB11.out.size))
  clear hb14' hFF hF hF1 hF2 hwh hso14 hi9 hsz9 hwl hy15 q15 rr14 hb13 hb14 hb12 ho12 ho13 hg12 hg13 hat12 hat13 hr13 hn13 hr14 j0 j1 j2 jr a0 a1 a2 ar K30 K31 K32 K33 L0 L1 L2 L3 M0 M1 M2 M3 HO HBA HQA HK1 HK2 HK3 HQ13 HPQ HSP HG3 HF1 HFL1 HCH11 RR3b HB11 HQ111 HQ311 RR11
  go_wp2_with fail
  refine (live_c _).mono ?_
  rintro e w15 ⟨rfl, hb15⟩
  have R15 := Lib.hid (R14.out.below hb15)
  have RR3d := Lib.hid (RR3c.out.below hb15)
  have HCH15 := Lib.hid (HCH14.out.below hb15)
  have HB15 := Lib.hid (HB14.out.trans (hb15.mono HB14.out.size))
  clear hb15 R14 RR3c HCH14 HB14
  go_wp2_with fail
  refine (Same_c X3 X15 _ _ g3.1 _ RR3d.out (Q15.out _ R15.out)).mono ?_
  rintro e w16 ⟨rfl, n16, rfl⟩
  have HCH16 := Lib.hid (HCH15.out.below (pw_below_drewN (Below.refl _ _) n16))
  clear HCH15
  go_wp2_with fail
  refine (Held_h _ B a b d (gtab seed) g3.2 hg0 HCH16.out).mono ?_
  rintro e w17 ⟨rfl, rfl⟩
  go_wp2_with fail
  go_ret
  exact ⟨by simp, pw_below_drewN HB15.out n16⟩
end Go.Proofs.Ytbckibjpaiealaa.F
