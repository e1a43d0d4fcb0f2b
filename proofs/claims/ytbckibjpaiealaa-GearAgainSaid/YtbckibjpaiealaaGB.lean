/- Two streams that are alike from a chunk's end on. -/
import Derived.Test.YtbckibjpaiealaaGB0
set_option linter.unusedVariables false
set_option linter.unusedSimpArgs false
namespace Go.Proofs.Ytbckibjpaiealaa.F
open Go.RowKit Go.Proofs.YtbckibjpaiealaaW.PrintWords

theorem bd1 {a b : Nat} (ha : a ≤ 3000) (hb : b ≤ 3000) : (a + b) * 1 ≤ 140737488355328 := by omega
theorem bd2 {xs ys : List Nat} (ha : xs.length ≤ 3000) (hb : ys.length ≤ 3000) : ((xs ++ ys).length + 1) * 24 ≤ 140737488355328 := by rw [List.length_append]; omega
theorem flat_lt {mn av mx : Nat} {tb q r : List Nat} (hq : ∀ x ∈ q, x < 256) (hr : ∀ x ∈ r, x < 256) : ∀ x ∈ (q.foldl (gstep mn av mx tb) ([], [])).1.flatten ++ r, x < 256 := by
  intro x hx
  rcases List.mem_append.1 hx with h | h
  · have hf : (q.foldl (gstep mn av mx tb) ([], [])).1.flatten ++ (q.foldl (gstep mn av mx tb) ([], [])).2 = q := by
      have hg : ∀ (p : List Nat) (s : List (List Nat) × List Nat), (p.foldl (gstep mn av mx tb) s).1.flatten ++ (p.foldl (gstep mn av mx tb) s).2 = s.1.flatten ++ s.2 ++ p := by
        intro p
        induction p with
        | nil => intro s; simp
        | cons b p ih =>
          intro s
          rw [List.foldl_cons, ih]
          unfold gstep
          split <;> simp
      simpa using hg q ([], [])
    refine hq x ?_
    rw [← hf]
    exact List.mem_append_left _ h
  · exact hr x h
theorem take_read {W : World} {A : Option Addr} {p : List Nat} (hr : RN .u8 W A p) : RN .u8 W A (p.take 3000) := by
  by_cases h : 3000 ≤ p.length
  · exact hr.take 3000 h
  · rw [List.take_of_length_le (by omega)]; exact hr

set_option maxRecDepth 20000 in
set_option maxHeartbeats 60000000 in
theorem GearAgain_walk (mn av mx : Int) (seed : Nat) (A1 A2 A3 : Option Addr) (d1 d2 d3 : Nat) (p1 p2 p3 : List Nat) (w : World) (hs : seed < 18446744073709551616)
    (hr1 : RN .u8 w A1 p1) (hp1 : ∀ x ∈ p1, x < 256) (hc1 : p1.length ≤ d1) (hr2 : RN .u8 w A2 p2) (hp2 : ∀ x ∈ p2, x < 256) (hc2 : p2.length ≤ d2) (hr3 : RN .u8 w A3 p3) (hp3 : ∀ x ∈ p3, x < 256) (hc3 : p3.length ≤ d3) :
    Calls Try.prog 6 #[.agg #[.int .i64 mn, .int .i64 av, .int .i64 mx], .int .u64 seed, .slice A1 p1.length d1, .slice A2 p2.length d2, .slice A3 p3.length d3] w fun e w' => e = .returned (.bool true) ∧ Below w.heap.size w w' := by
  have hsm1 := fun W (hr : RN .u8 W A1 p1) => small_c A1 d1 p1 W hr hc1
  have hrd1 := fun W (hr : RN .u8 W A1 p1) => take_read hr
  have hq1 : ∀ x ∈ p1.take 3000, x < 256 := fun x hx => hp1 x (List.mem_of_mem_take hx)
  have hl1 : (p1.take 3000).length ≤ 3000 := by rw [List.length_take]; omega
  obtain ⟨q1, hqe⟩ : ∃ q, p1.take 3000 = q := ⟨_, rfl⟩
  rw [hqe] at hsm1 hrd1 hq1 hl1
  clear hqe hp1
  have SM1 := Lib.hid hsm1
  have RD1 := Lib.hid hrd1
  have QL1 := Lib.hid hl1
  clear hsm1 hrd1 hl1
  have hsm2 := fun W (hr : RN .u8 W A2 p2) => small_c A2 d2 p2 W hr hc2
  have hrd2 := fun W (hr : RN .u8 W A2 p2) => take_read hr
  have hq2 : ∀ x ∈ p2.take 3000, x < 256 := fun x hx => hp2 x (List.mem_of_mem_take hx)
  have hl2 : (p2.take 3000).length ≤ 3000 := by rw [List.length_take]; omega
  obtain ⟨q2, hqe⟩ : ∃ q, p2.take 3000 = q := ⟨_, rfl⟩
  rw [hqe] at hsm2 hrd2 hq2 hl2
  clear hqe hp2
  have SM2 := Lib.hid hsm2
  have RD2 := Lib.hid hrd2
  have QL2 := Lib.hid hl2
  clear hsm2 hrd2 hl2
  have hsm3 := fun W (hr : RN .u8 W A3 p3) => small_c A3 d3 p3 W hr hc3
  have hrd3 := fun W (hr : RN .u8 W A3 p3) => take_read hr
  have hq3 : ∀ x ∈ p3.take 3000, x < 256 := fun x hx => hp3 x (List.mem_of_mem_take hx)
  have hl3 : (p3.take 3000).length ≤ 3000 := by rw [List.length_take]; omega
  obtain ⟨q3, hqe⟩ : ∃ q, p3.take 3000 = q := ⟨_, rfl⟩
  rw [hqe] at hsm3 hrd3 hq3 hl3
  clear hqe hp3
  have SM3 := Lib.hid hsm3
  have RD3 := Lib.hid hrd3
  have QL3 := Lib.hid hl3
  clear hsm3 hrd3 hl3
  have htc := refTable_c seed hs
  have hck := fun W => refCheck_c mn av mx W
  have hz := zeroT
  obtain ⟨tl, htl⟩ : ∃ tl : List Value, (gtab seed).map (encN .u32) = tl := ⟨_, rfl⟩
  have htt : tabA (gtab seed) = tl.toArray := by unfold tabA; rw [htl]
  have hll : tl.length = 256 := by rw [← htl, List.length_map, gtab_len]
  have ho1 : ∀ v ∈ tl, v.oneCell' = true := by
    intro v hv
    rw [← htl] at hv
    obtain ⟨x, _, rfl⟩ := List.mem_map.1 hv
    rfl
  obtain ⟨W0, hW0⟩ : ∃ W0, w.alloc (.cells #[.int .i64 mn, .int .i64 av, .int .i64 mx] 24) = W0 := ⟨_, rfl⟩
  have hB0 : Below w.heap.size w W0 := by rw [← hW0]; exact (Below.refl _ _).alloc (Nat.le_refl _) _
  have hs0 : W0.heap.size = w.heap.size + 1 := by rw [← hW0]; simp
  have hg : W0.heap[w.heap.size]? = some (.cells #[.int .i64 mn, .int .i64 av, .int .i64 mx] 24 (0, 0)) := by rw [← hW0]; exact heap_alloc_new _ _
  rw [htt] at htc
  obtain ⟨sv, hsv⟩ : ∃ sv : Int, (seed : Int) = sv := ⟨_, rfl⟩
  rw [hsv] at htc ⊢
  have HT := Lib.hid htc
  have HK := Lib.hid hck
  have HG := Lib.hid hg
  have HTT := Lib.hid htt
  clear htc hck hg htt hsv
  go_enter Try.func6, Try.ntmps6
  go_wp2_with fail
  refine (HT.out _).mono ?_
  rintro e w1 ⟨rfl, hb1⟩
  have hs1 := hb1.size
  have hi2 : (Try.prog.info? 27).map (·.size) = some tl.toArray.size := by rw [List.size_toArray, hll]; exact infoT
  have hzs : zeros256.size = tl.toArray.size := (Array.size_replicate : zeros256.size = 256).trans (by rw [List.size_toArray]; exact hll.symm)
  have hoc : tl.toArray.all (·.oneCell') = true := by rw [List.all_toArray]; exact List.all_eq_true.2 ho1
  have HI := Lib.hid hi2
  have HZS := Lib.hid hzs
  have HOC := Lib.hid hoc
  clear hi2 hzs hoc
  have hn : (w1.alloc (.cells zeros256 27)).heap[w1.heap.size]? = some (.cells zeros256 27 (0, 0)) := heap_alloc_new _ _
  obtain ⟨W2, hW2⟩ : ∃ W2, (w1.alloc (.cells zeros256 27)).setRow w1.heap.size tl.toArray = W2 := ⟨_, rfl⟩
  have hB1 : Below w1.heap.size w1 W2 := by rw [← hW2]; exact below_setRow ((Below.refl _ _).alloc (Nat.le_refl _) _) (Nat.le_refl _) _
  have hg2 : W2.heap[w1.heap.size]? = some (.cells tl.toArray 27 (0, 0)) := by rw [← hW2]; exact setRow_heap _ _ _ _ _ _ hn
  have hs2 : W2.heap.size = w1.heap.size + 1 := by rw [← hW2]; simp
  have hcu : W2.heap[w.heap.size]? = some (.cells #[.int .i64 mn, .int .i64 av, .int .i64 mx] 24 (0, 0)) := (hB1.block _ (by omega)).trans ((hb1.block _ (by omega)).trans HG.out)
  have c0 : W2.cell? ⟨w.heap.size, 0, none⟩ = some (.int .i64 mn) := by rw [cell_of_row _ _ _ _ _ _ hcu]; rfl
  have c1 : W2.cell? ⟨w.heap.size, 1, none⟩ = some (.int .i64 av) := by rw [cell_of_row _ _ _ _ _ _ hcu]; rfl
  have c2 : W2.cell? ⟨w.heap.size, 2, none⟩ = some (.int .i64 mx) := by rw [cell_of_row _ _ _ _ _ _ hcu]; rfl
  have HN := Lib.hid hn
  have HW2 := Lib.hid hW2
  have hbw2 : Below w.heap.size w W2 := (hB0.trans (hb1.mono hB0.size)).trans (hB1.mono (by omega))
  have HBW2 := Lib.hid hbw2
  have HRG := Lib.hid (range_of_block hg2)
  clear hn hW2 hg2 hcu hb1 hB1 hbw2 hB0 hW0
  go_wp2_with (first | rw [HW2.out] | refine wpList_store_row rfl 27 (.tmp 11) (.tmp 25) rfl w1.heap.size rfl tl.toArray zeros256 rfl 27 HN.out HI.out HZS.out HOC.out ?_)
  refine (HK.out _).mono ?_
  rintro e w3 ⟨rfl, hb3⟩
  have hs3 := hb3.size
  have hbw3 : Below w.heap.size w w3 := HBW2.out.trans (hb3.mono HBW2.out.size)
  by_cases hcut0 : cutOk mn av mx = false
  · have hcv : checkV mn av mx = 2 := by unfold checkV; rw [hcut0]; rfl
    rw [hcv]
    have HBW3 := Lib.hid hbw3
    clear hb3 hbw3 hcut0
    go_wp2_with fail
    refine (live_c _).mono ?_
    rintro e w6 ⟨rfl, hb6⟩
    have HB6 := Lib.hid (HBW3.out.trans (hb6.mono HBW3.out.size))
    clear hb6
    go_wp2_with fail
    go_ret
    exact ⟨rfl, HB6.out⟩
  have hcut : cutOk mn av mx = true := by simpa using hcut0
  clear hcut0
  have hcv : checkV mn av mx = 0 := by unfold checkV; rw [if_pos hcut]
  rw [hcv]
  have kp : ∀ (W W' : World) (n : Nat) (v : Value), Below W.heap.size W W' → w.heap.size < W.heap.size → W.cell? ⟨w.heap.size, n, none⟩ = some v → W'.cell? ⟨w.heap.size, n, none⟩ = some v := fun W W' n v hb hl h => (cell_move (a := ⟨w.heap.size, n, none⟩) (hb.block _ hl)).trans h
  have j0 := kp _ _ _ _ hb3 (by omega) c0
  have j1 := kp _ _ _ _ hb3 (by omega) c1
  have j2 := kp _ _ _ _ hb3 (by omega) c2
  have jr := range_below HRG.out hb3 (by omega)
  have hwl : w.heap.size < w1.heap.size := by omega
  have hw3 : w1.heap.size < w3.heap.size := by omega
  clear c0 c1 c2 hs2 hs3 HRG hs1
  have hgl := gtab_lt seed
  have hg0 := gtab_len seed
  obtain ⟨a, b, d, rfl, rfl, rfl⟩ := cut_nat hcut
  have hsp := fun (A : Option Addr) (c : Nat) (p : List Nat) (W : World) (hr : RN .u8 W A p) (hp : ∀ x ∈ p, x < 256) (hn : p.length ≤ 100000) => SplitF_c a b d (gtab seed) A c p W hg0 hgl hcut hr hp hn
  have hal := fun (A : Option Addr) (c : Nat) (p : List Nat) (W : World) (hr : RN .u8 W A p) (hp : ∀ x ∈ p, x < 256) (hl : (p.length + 1) * 24 ≤ 140737488355328) => All_ok a b d (gtab seed) A c p W hg0 hcut hr hp hl
  rw [HTT.out] at hsp hal
  have HSP := Lib.hid hsp
  have HAL := Lib.hid hal
  have KP := Lib.hid kp
  have HBW3 := Lib.hid hbw3
  have HR1 := Lib.hid (hr1.below hbw3)
  have HR2 := Lib.hid (hr2.below hbw3)
  have HR3 := Lib.hid (hr3.below hbw3)
  have hilen : (Try.prog.info? 27).map (·.size) = some tl.length := by rw [hll]; exact infoT
  have hu27 := Try.underlying27
  clear hb3 hbw3 hsp hal kp hgl hcv hr1 hr2 hr3
  go_wp2_with fail
  go_region_held_law (fun w' => w'.cell? ⟨w.heap.size, 0, none⟩ = some (.int .i64 (a : Int)) ∧ w'.cell? ⟨w.heap.size, 1, none⟩ = some (.int .i64 (b : Int)) ∧ w'.cell? ⟨w.heap.size, 2, none⟩ = some (.int .i64 (d : Int)) ∧ w'.rangeAt w1.heap.size 0 tl)
    (first | exact ⟨K30, K31, K32, K33⟩ | assumption | exact ⟨j0, j1, j2, jr⟩)
    (first
      | (go_simp; go_at_call 14; refine (SM1.out w3.drew (HR1.out.move (fun _ _ => rfl))).mono ?_; rintro e w4 ⟨rfl, rfl⟩)
      | (go_simp; go_at_call 18; refine (HSP.out A1 d1 q1 w3.drew (RD1.out w3.drew (HR1.out.move (fun _ _ => rfl))) hq1 (by have := QL1.out; omega)).mono ?_; rintro e w4 ⟨v4, B4, b4, okc4, rfl, ho4, hr4, hb4⟩; have K30 := KP.out w3.drew _ _ _ hb4 (by simp; omega) j0; have K31 := KP.out w3.drew _ _ _ hb4 (by simp; omega) j1; have K32 := KP.out w3.drew _ _ _ hb4 (by simp; omega) j2; have K33 := range_below (W := w3.drew) jr hb4 (by simp; omega)))
  have hs4 := hb4.size
  have hB4 : Below w3.heap.size w3 w4 := ⟨hb4.os, hb4.tape, hb4.output, hb4.size, hb4.block⟩
  have k0 := K30
  have k1 := K31
  have k2 := K32
  have kr := K33
  have ho4' : SRow w4 okc4 w3.heap.size 32 v4 (q1.foldl (gstep a b d (gtab seed)) ([], [])).1 := ho4
  obtain ⟨f1, hf1⟩ : ∃ f1, q1.foldl (gstep a b d (gtab seed)) ([], []) = f1 := ⟨_, rfl⟩
  have HF1 := Lib.hid hf1
  rw [hf1] at ho4'
  have HO4 := Lib.hid ho4'
  have HB4 := Lib.hid hB4
  have HR2' := Lib.hid (HR2.out.below hB4)
  have HR3' := Lib.hid (HR3.out.below hB4)
  have hw4 : w1.heap.size < w4.heap.size := Nat.lt_of_lt_of_le hw3 hs4
  rw [hf1]
  clear hf1 ho4 ho4' hr4 hb4 hB4 hs4 j0 j1 j2 jr K30 K31 K32 K33
  go_wp2_with fail
  go_region_held_law (fun w' => w'.cell? ⟨w.heap.size, 0, none⟩ = some (.int .i64 (a : Int)) ∧ w'.cell? ⟨w.heap.size, 1, none⟩ = some (.int .i64 (b : Int)) ∧ w'.cell? ⟨w.heap.size, 2, none⟩ = some (.int .i64 (d : Int)) ∧ w'.rangeAt w1.heap.size 0 tl)
    (first | exact ⟨K30, K31, K32, K33⟩ | assumption | exact ⟨k0, k1, k2, kr⟩)
    (first
      | (go_simp; go_at_call 14; refine (SM2.out w4.drew (HR2'.out.move (fun _ _ => rfl))).mono ?_; rintro e w5 ⟨rfl, rfl⟩)
      | (go_simp; go_at_call 18; refine (HSP.out A2 d2 q2 w4.drew (RD2.out w4.drew (HR2'.out.move (fun _ _ => rfl))) hq2 (by have := QL2.out; omega)).mono ?_; rintro e w5 ⟨v5, B5, b5, okc5, rfl, ho5, hr5, hb5⟩; have K30 := KP.out w4.drew _ _ _ hb5 (by simp; omega) k0; have K31 := KP.out w4.drew _ _ _ hb5 (by simp; omega) k1; have K32 := KP.out w4.drew _ _ _ hb5 (by simp; omega) k2; have K33 := range_below (W := w4.drew) kr hb5 (by simp; omega)))
  have hs5 := hb5.size
  have hB5 : Below w4.heap.size w4 w5 := ⟨hb5.os, hb5.tape, hb5.output, hb5.size, hb5.block⟩
  have j0 := K30
  have j1 := K31
  have j2 := K32
  have jr := K33
  have ho5' : SRow w5 okc5 w4.heap.size 32 v5 (q2.foldl (gstep a b d (gtab seed)) ([], [])).1 := ho5
  obtain ⟨f2, hf2⟩ : ∃ f2, q2.foldl (gstep a b d (gtab seed)) ([], []) = f2 := ⟨_, rfl⟩
  have HF2 := Lib.hid hf2
  rw [hf2] at ho5'
  have HO5 := Lib.hid ho5'
  have HO4b := Lib.hid (HO4.out.below hB5)
  have HB5 := Lib.hid (HB4.out.trans (hB5.mono HB4.out.size))
  have HR3b := Lib.hid (HR3'.out.below hB5)
  have hw5 : w1.heap.size < w5.heap.size := Nat.lt_of_lt_of_le hw4 hs5
  rw [hf2]
  clear hf2 ho5 ho5' hr5 hb5 hB5 hs5 k0 k1 k2 kr K30 K31 K32 K33
  have hmn : 1 ≤ a ∧ a ≤ d := by
    unfold cutOk at hcut
    simp only [Bool.and_eq_true, decide_eq_true_eq] at hcut
    omega
  have hfl1 : f1.1.flatten.length ≤ 3000 := by
    have h := (gfold_inv (av := b) (tb := gtab seed) hmn.1 hmn.2 q1 ([], []) ⟨by simp, by simp; omega⟩).2
    rw [HF1.out] at h
    have h2 := congrArg List.length h
    simp only [List.length_append, List.flatten_nil, List.length_nil] at h2
    have := QL1.out
    omega
  have hfl2 : f2.1.flatten.length ≤ 3000 := by
    have h := (gfold_inv (av := b) (tb := gtab seed) hmn.1 hmn.2 q2 ([], []) ⟨by simp, by simp; omega⟩).2
    rw [HF2.out] at h
    have h2 := congrArg List.length h
    simp only [List.length_append, List.flatten_nil, List.length_nil] at h2
    have := QL2.out
    omega
  have HL1 := Lib.hid hfl1
  have HL2 := Lib.hid hfl2
  obtain ⟨E4, e4, rfl, he4, rr4⟩ := HO4b.out.reads
  obtain ⟨E5, e5, rfl, he5, rr5⟩ := HO5.out.reads
  have hm4 := rr4.max
  have hm5 := rr5.max
  have RR4 := Lib.hid rr4
  have RR5 := Lib.hid rr5
  have J0 := Lib.hid j0
  have J1 := Lib.hid j1
  have J2 := Lib.hid j2
  have JR := Lib.hid jr
  clear hfl1 hfl2 rr4 rr5 j0 j1 j2 jr hmn
  go_wp2_with fail
  obtain ⟨cs, hcs⟩ : ∃ cs, f1.1 = cs := ⟨_, rfl⟩
  rw [hcs] at HL1 RR4 hm4 he4 ⊢
  have HCS := Lib.hid hcs
  clear hcs
  go_loopw [16, 18] (fun va vi W => ∃ k : Nat, k ≤ cs.length ∧ vi = .int .i64 k ∧ OwnN .u8 5 W w5.heap.size va (cs.take k).flatten ∧ Below w5.heap.size w5 W) (fun va vi _ => cs.length - (intOf vi).toNat)
  case atStart => exact ⟨0, by omega, rfl, own_nil _ _ _ _, Below.refl _ _⟩
  case round =>
    obtain ⟨k, hk, rfl, hva, hW⟩ := hrel
    have HVA := Lib.hid hva
    have HW := Lib.hid hW
    clear hva hW
    have hb3 : w5.heap.size ≤ wr.heap.size := HW.out.size
    by_cases hlt : k < cs.length
    · have hd : decide ((k : Int) < cs.length) = true := decide_eq_true (by omega)
      obtain ⟨ad, B9, b9, e, q9, l9, r9⟩ := (RR4.out.below HW.out).at k hlt
      subst e
      have hft := flat_take cs k hlt
      have hfl2 := flat_len cs (k + 1)
      rw [hft, List.length_append] at hfl2
      obtain ⟨ys, hys⟩ : ∃ ys, cs[k] = ys := ⟨_, rfl⟩
      rw [hys] at q9 l9 r9 hft hfl2
      clear hys
      have hbnd : ((cs.take k).flatten.length + ys.length) * 1 ≤ 140737488355328 := by have := HL1.out; omega
      have HFT := Lib.hid hft
      have HRY := Lib.hid r9
      have HBD := Lib.hid hbnd
      clear hft hfl2 r9 hbnd
      have i0 : (0 : Int) ≤ (k : Int) := by omega
      have i1 : (k : Int) < (cs.length : Int) := by omega
      go_wp2_with (at_builtin; refine append_NN w5.heap.size rfl (.tmp 52) (.tmp 56) 32 5 .u8 1 rfl Try.underlying32 info_u8 (by decide) u16 (cs.take k).flatten ys B9 b9 rfl rfl HVA.out HRY.out hb3 HBD.out ?_; intro v1 w1' ho1 hg1 hat1)
      refine ⟨⟨k + 1, by omega, by go_num, by rw [HFT.out]; exact ho1, ?_⟩, by simp [intOf]; omega⟩
      exact ⟨hg1.os.trans HW.out.os, hg1.tape.trans HW.out.tape, hg1.output.trans HW.out.output, Nat.le_trans hb3 hg1.size, fun j hj => (hg1.block j (by omega) (fun hh => by have := (HVA.out.typed j hh.symm).1; omega)).trans (HW.out.block j hj)⟩
    · have hd : decide ((k : Int) < cs.length) = false := decide_eq_false (by omega)
      obtain rfl : k = cs.length := by omega
      have hva1 : OwnN .u8 5 wr w5.heap.size u16 cs.flatten := by have := HVA.out; rw [List.take_length] at this; exact this
      have HVA1 := Lib.hid hva1
      clear hva1
      obtain ⟨wo, rfl⟩ : ∃ wo : World, wo = wr := ⟨_, rfl⟩
      go_wp2_with fail
      obtain ⟨ds, hds⟩ : ∃ ds, f2.1 = ds := ⟨_, rfl⟩
      rw [hds] at HL2 RR5 hm5 he5 ⊢
      have HDS := Lib.hid hds
      clear hds
      have hwo := HW.out.size
      go_loopw [17, 19] (fun va vi W => ∃ k : Nat, k ≤ ds.length ∧ vi = .int .i64 k ∧ OwnN .u8 5 W wo.heap.size va (ds.take k).flatten ∧ Below wo.heap.size wo W) (fun va vi _ => ds.length - (intOf vi).toNat)
      case atStart => exact ⟨0, by omega, rfl, own_nil _ _ _ _, Below.refl _ _⟩
      case round =>
        obtain ⟨k2, hk2, rfl, hva, hW⟩ := hrel
        have HVB := Lib.hid hva
        have HWB := Lib.hid hW
        clear hva hW
        have hb4 : wo.heap.size ≤ wr.heap.size := HWB.out.size
        by_cases hlt2 : k2 < ds.length
        · have hd2 : decide ((k2 : Int) < ds.length) = true := decide_eq_true (by omega)
          obtain ⟨ad, B9, b9, e, q9, l9, r9⟩ := ((RR5.out.below HW.out).below HWB.out).at k2 hlt2
          subst e
          have hft := flat_take ds k2 hlt2
          have hfl2 := flat_len ds (k2 + 1)
          rw [hft, List.length_append] at hfl2
          obtain ⟨ys, hys⟩ : ∃ ys, ds[k2] = ys := ⟨_, rfl⟩
          rw [hys] at q9 l9 r9 hft hfl2
          clear hys
          have hbnd : ((ds.take k2).flatten.length + ys.length) * 1 ≤ 140737488355328 := by have := HL2.out; omega
          have HFT := Lib.hid hft
          have HRY := Lib.hid r9
          have HBD := Lib.hid hbnd
          clear hft hfl2 r9 hbnd
          have i0 : (0 : Int) ≤ (k2 : Int) := by omega
          have i1 : (k2 : Int) < (ds.length : Int) := by omega
          go_wp2_with (at_builtin; refine append_NN wo.heap.size rfl (.tmp 64) (.tmp 68) 32 5 .u8 1 rfl Try.underlying32 info_u8 (by decide) u17 (ds.take k2).flatten ys B9 b9 rfl rfl HVB.out HRY.out hb4 HBD.out ?_; intro v1 w1' ho1 hg1 hat1)
          refine ⟨⟨k2 + 1, by omega, by go_num, by rw [HFT.out]; exact ho1, ?_⟩, by simp [intOf]; omega⟩
          exact ⟨hg1.os.trans HWB.out.os, hg1.tape.trans HWB.out.tape, hg1.output.trans HWB.out.output, Nat.le_trans hb4 hg1.size, fun j hj => (hg1.block j (by omega) (fun hh => by have := (HVB.out.typed j hh.symm).1; omega)).trans (HWB.out.block j hj)⟩
        · have hd2 : decide ((k2 : Int) < ds.length) = false := decide_eq_false (by omega)
          obtain rfl : k2 = ds.length := by omega
          go_wp2_with fail
          have hbr : Below w5.heap.size w5 wr := HW.out.trans (HWB.out.mono hwo)
          have k0 := cell_under hbr (by omega) J0.out
          have k1 := cell_under hbr (by omega) J1.out
          have k2 := cell_under hbr (by omega) J2.out
          have kr := range_under JR.out hbr (by omega)
          have hsr := hbr.size
          have hva2 : OwnN .u8 5 wr w5.heap.size u16 cs.flatten := HVA1.out.move (fun b hb => HWB.out.block b (HVA1.out.typed b hb).2.1)
          have HVA2 := Lib.hid hva2
          have hvb2 : OwnN .u8 5 wr wo.heap.size u17 ds.flatten := by have := HVB.out; rw [List.take_length] at this; exact this
          have HVB2 := Lib.hid hvb2
          have HR3c := Lib.hid (HR3b.out.below hbr)
          have hbd1 : (cs.flatten.length + q3.length) * 1 ≤ 140737488355328 := bd1 HL1.out QL3.out
          have hbd2 : (ds.flatten.length + q3.length) * 1 ≤ 140737488355328 := bd1 HL2.out QL3.out
          have HD1 := Lib.hid hbd1
          have HD2 := Lib.hid hbd2
          have hbq1 : ∀ x ∈ cs.flatten ++ q3, x < 256 := by rw [← HCS.out, ← HF1.out]; exact flat_lt hq1 hq3
          have hbq2 : ∀ x ∈ ds.flatten ++ q3, x < 256 := by rw [← HDS.out, ← HF2.out]; exact flat_lt hq2 hq3
          have HQ1 := Lib.hid hbq1
          have HQ2 := Lib.hid hbq2
          have hal1 : ((cs.flatten ++ q3).length + 1) * 24 ≤ 140737488355328 := bd2 HL1.out QL3.out
          have hal2 : ((ds.flatten ++ q3).length + 1) * 24 ≤ 140737488355328 := bd2 HL2.out QL3.out
          have HAL1 := Lib.hid hal1
          have HAL2 := Lib.hid hal2
          have HBR := Lib.hid hbr
          obtain ⟨y1, hy1⟩ : ∃ y, cs.flatten ++ q3 = y := ⟨_, rfl⟩
          obtain ⟨y2, hy2⟩ : ∃ y, ds.flatten ++ q3 = y := ⟨_, rfl⟩
          rw [hy1] at HQ1 HAL1
          rw [hy2] at HQ2 HAL2
          have HY1 := Lib.hid hy1
          have HY2 := Lib.hid hy2
          clear hy1 hy2
          clear hbr hva2 hvb2 hbd1 hbd2 hbq1 hbq2 hal1 hal2
          go_region_held_law (fun w' => w'.cell? ⟨w.heap.size, 0, none⟩ = some (.int .i64 (a : Int)) ∧ w'.cell? ⟨w.heap.size, 1, none⟩ = some (.int .i64 (b : Int)) ∧ w'.cell? ⟨w.heap.size, 2, none⟩ = some (.int .i64 (d : Int)) ∧ w'.rangeAt w1.heap.size 0 tl)
            (first | exact ⟨K40, K41, K42, K43⟩ | exact ⟨K30, K31, K32, K33⟩ | assumption | exact ⟨k0, k1, k2, kr⟩)
            (first
              | (refine step_append_NN (W := wr.drew) w5.heap.size (by rfl) (.tmp 73) (.tmp 75) 32 5 .u8 1 (by rfl) Try.underlying32 info_u8 (by decide) u16 cs.flatten q3 A3 d3 (by rfl) (by rfl) (HVA2.out.move (fun _ _ => rfl)) (RD3.out wr.drew (HR3c.out.move (fun _ _ => rfl))) hsr HD1.out ?_; intro v6 w6 ho6 hg6 hat6; rw [HY1.out] at ho6; obtain ⟨A6, c6, rfl, hc6, hr6⟩ := ho6.reads; have hb6 := below_grown (W := wr.drew) (HVA2.out.move (fun _ _ => rfl)) hsr hg6; have hs6 : wr.heap.size ≤ w6.heap.size := hb6.size; have K30 := cell_under (W := wr.drew) hb6 (by omega) k0; have K31 := cell_under (W := wr.drew) hb6 (by omega) k1; have K32 := cell_under (W := wr.drew) hb6 (by omega) k2; have K33 := range_under (W := wr.drew) kr hb6 (by omega))
              | (go_simp; go_at_call 14; refine (SM3.out wr.drew (HR3c.out.move (fun _ _ => rfl))).mono ?_; rintro e w5' ⟨rfl, rfl⟩)
              | (go_simp; go_at_call 15; refine (HAL.out A6 c6 _ w6 hr6 HQ1.out HAL1.out).mono ?_; rintro e w7 ⟨v7, okc7, rfl, ho7, hok7, hb7⟩; have K40 := cell_under hb7 (by omega) K30; have K41 := cell_under hb7 (by omega) K31; have K42 := cell_under hb7 (by omega) K32; have K43 := range_under K33 hb7 (by omega)))
          have hg6' : wr.drew.grownBy w6 u16.ownBlock := hg6
          have hvb6 : OwnN .u8 5 w6 wo.heap.size u17 ds.flatten := HVB2.out.move (fun b hb => hg6.block b (HVB2.out.typed b hb).2.1 (fun hh => by have h1 := (HVA1.out.typed b hh.symm).2.1; have h2 := (HVB2.out.typed b hb).1; omega))
          have hw7 : Below w5.heap.size w5 w7 := HBR.out.trans ((below_drew hb6).trans (hb7.mono (Nat.le_trans hsr hs6)))
          have hs7 : w6.heap.size ≤ w7.heap.size := hb7.size
          have hvb7 := hvb6.kept hb7
          have HVB7 := Lib.hid hvb7
          have HOK7 := Lib.hid hok7
          have hw6r : wr.heap.size ≤ w6.heap.size := hs6
          have HO7 := Lib.hid ho7
          have HW7 := Lib.hid hw7
          have HR3d := Lib.hid (HR3b.out.below hw7)
          have hwo7 : wo.heap.size ≤ w7.heap.size := by have := HWB.out.size; omega
          have m0 := K40
          have m1 := K41
          have m2 := K42
          have mr := K43
          have hw17 : w1.heap.size < w7.heap.size := by omega
          clear K30 K31 K32 K33 K40 K41 K42 K43 k0 k1 k2 kr ho7 hg6 hg6' hvb6 hw7 hvb7 hb6 hb7 ho6 hr6 hat6 hc6
          go_wp2_with fail
          go_region_held_law (fun w' => w'.cell? ⟨w.heap.size, 0, none⟩ = some (.int .i64 (a : Int)) ∧ w'.cell? ⟨w.heap.size, 1, none⟩ = some (.int .i64 (b : Int)) ∧ w'.cell? ⟨w.heap.size, 2, none⟩ = some (.int .i64 (d : Int)) ∧ w'.rangeAt w1.heap.size 0 tl)
            (first | exact ⟨K40, K41, K42, K43⟩ | exact ⟨K30, K31, K32, K33⟩ | assumption | exact ⟨m0, m1, m2, mr⟩)
            (first
              | (refine step_append_NN (W := w7.drew) wo.heap.size (by rfl) (.tmp 83) (.tmp 85) 32 5 .u8 1 (by rfl) Try.underlying32 info_u8 (by decide) u17 ds.flatten q3 A3 d3 (by rfl) (by rfl) (HVB7.out.move (fun _ _ => rfl)) (RD3.out w7.drew (HR3d.out.move (fun _ _ => rfl))) hwo7 HD2.out ?_; intro v8 w8 ho8 hg8 hat8; rw [HY2.out] at ho8; obtain ⟨A8, c8, rfl, hc8, hr8⟩ := ho8.reads; have hb8 := below_grown (W := w7.drew) (HVB7.out.move (fun _ _ => rfl)) hwo7 hg8; have hs8 : w7.heap.size ≤ w8.heap.size := hb8.size; have K30 := cell_under (W := w7.drew) hb8 (by omega) m0; have K31 := cell_under (W := w7.drew) hb8 (by omega) m1; have K32 := cell_under (W := w7.drew) hb8 (by omega) m2; have K33 := range_under (W := w7.drew) mr hb8 (by omega))
              | (go_simp; go_at_call 14; refine (SM3.out w7.drew (HR3d.out.move (fun _ _ => rfl))).mono ?_; rintro e w7' ⟨rfl, rfl⟩)
              | (go_simp; go_at_call 15; refine (HAL.out A8 c8 _ w8 hr8 HQ2.out HAL2.out).mono ?_; rintro e w9 ⟨v9, okc9, rfl, ho9, hok9, hb9⟩; have K40 := cell_under hb9 (by omega) K30; have K41 := cell_under hb9 (by omega) K31; have K42 := cell_under hb9 (by omega) K32; have K43 := range_under K33 hb9 (by omega)))
          have hc1 : chunks a b d (gtab seed) y1 = cs ++ chunks a b d (gtab seed) q3 := by
            have h := chunks_ahead (mn := a) (av := b) (mx := d) (tb := gtab seed) q1 q3
            rw [HF1.out, HCS.out, HY1.out] at h
            exact h
          have hc2 : chunks a b d (gtab seed) y2 = ds ++ chunks a b d (gtab seed) q3 := by
            have h := chunks_ahead (mn := a) (av := b) (mx := d) (tb := gtab seed) q2 q3
            rw [HF2.out, HDS.out, HY2.out] at h
            exact h
          obtain ⟨ch, hch⟩ : ∃ ch, chunks a b d (gtab seed) q3 = ch := ⟨_, rfl⟩
          rw [hch] at hc1 hc2
          obtain ⟨l1, hl1⟩ : ∃ l, chunks a b d (gtab seed) y1 = l := ⟨_, rfl⟩
          obtain ⟨l2, hl2⟩ : ∃ l, chunks a b d (gtab seed) y2 = l := ⟨_, rfl⟩
          have ho7 := HO7.out
          rw [hl1] at ho7 hc1
          rw [hl2] at ho9 hc2
          have hs9 : w8.heap.size ≤ w9.heap.size := hb9.size
          have hm7 : ∀ k, okc7 k ∨ v7.ownBlock = some k → w9.heap[k]? = w7.heap[k]? := fun k hk => by
            have hk1 : w6.heap.size ≤ k ∧ k < w7.heap.size := by
              rcases hk with hk | hk
              · exact ⟨HOK7.out k hk, ho7.okc_lt k hk⟩
              · have := ho7.typed k hk; exact ⟨this.1, this.2.1⟩
            refine (hb9.block k (by omega)).trans (hg8.block k hk1.2 (fun hh => ?_))
            have := (HVB2.out.typed k hh.symm).2.1
            omega
          have ho79 := ho7.move (by omega) hm7
          have hbf : Below w.heap.size w w9 := by
            have e1 := HBW3.out
            have e2 := HB5.out
            have e3 := HW7.out
            have e4 := below_drew hb8
            have z1 := e1.size
            have z2 := e2.size
            have z3 := e3.size
            exact (((e1.trans (e2.mono z1)).trans (e3.mono (Nat.le_trans z1 z2))).trans (e4.mono (by omega))).trans (hb9.mono (by omega))
          obtain ⟨A7, c7, rfl, hc7, rr7⟩ := ho79.reads
          obtain ⟨A9, c9, rfl, hc9, rr9⟩ := ho9.reads
          have hll1 : l1.length = cs.length + ch.length := by rw [hc1, List.length_append]
          have hll2 : l2.length = ds.length + ch.length := by rw [hc2, List.length_append]
          have hm7' := rr7.max
          have hm9' := rr9.max
          have t1 : decide ((l1.length : Int) < (cs.length : Int)) = false := decide_eq_false (by omega)
          have t2 : decide ((l2.length : Int) < (ds.length : Int)) = false := decide_eq_false (by omega)
          have t1' : decide (l1.length < cs.length) = false := decide_eq_false (by omega)
          have t2' : decide (l2.length < ds.length) = false := decide_eq_false (by omega)
          have HC1 := Lib.hid hc1
          have HC2 := Lib.hid hc2
          have RR7 := Lib.hid rr7
          have RR9 := Lib.hid rr9
          have HBF := Lib.hid hbf
          clear hc1 hc2 hch hl1 hl2 ho7 ho9 hm7 ho79 hbf rr7 rr9 hll1 hll2 hg8 hat8 hb8 hb9 ho8 hr8 hok9 hok7 K30 K31 K32 K33 K40 K41 K42 K43 m0 m1 m2 mr
          go_wp2_with fail
          trace "TAIL"
          all_goals (exact GearAgain_tail (by assumption) HC1.out HC2.out hc7 hc9 RR7.out RR9.out HBF.out)
end Go.Proofs.Ytbckibjpaiealaa.F
