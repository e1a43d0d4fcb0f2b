/- Part 35 of the proof: O6. -/
import Derived.Test.YtbcamfbbooggfaaGreatQ34
import Derived.Test.YtbcamfbbooggfaaGreatQ33
import Derived.Test.YtbcamfbbooggfaaGreatQ32
import Derived.Deep.DeepCutAuto

/- TopKept: the walk. -/
set_option linter.unusedVariables false
set_option linter.unusedSimpArgs false
namespace Go.Proofs.YtbcamfbbooggfaaGreat.F
open Go.RowKit Go.Proofs.YtbcamfbbooggfaaGreatW.PrintWords Go.Maps
attribute [local go_sem ↓] Go.wp_at_zero Go.wp_at_succ

theorem top_lt2 (u : Nat) (h : u < 18446744073709551616) : (u ^^^ u / 2147483648) / 4294967296 < 4294967296 := by
  have b3 : u ^^^ u / 2147483648 < 18446744073709551616 := Nat.xor_lt_two_pow (n := 64) h (Nat.lt_of_le_of_lt (Nat.div_le_self _ _) h)
  omega
theorem mix64_lt (y : Nat) : mix64 y < 4294967296 := top_lt2 _ (Nat.mod_lt _ p64)
theorem gtab_lt (seed : Nat) : ∀ x ∈ gtab seed, x < 4294967296 := by
  intro x hx
  obtain ⟨i, _, rfl⟩ := List.mem_map.1 hx
  exact mix64_lt _
theorem info_cut_size : (Tryz.prog.info? 23).map (·.size) = some 3 := by kernel_rfl
set_option maxRecDepth 20000 in
set_option maxHeartbeats 4000000 in
theorem TopKept_walk (mn av mx : Int) (seed : Nat) (A : Option Addr) (c : Nat) (p : List Nat) (from0 size0 : Nat) (x0 : Option Addr) (xn xc : Nat) (x1 x2 : Int) (w : World) (hs : seed < 18446744073709551616) (hf : from0 < 65536) (hz : size0 < 65536)
    (hr : RN .u8 w A p) (hc : p.length ≤ c) (hp : ∀ x ∈ p, x < 256) :
    Calls Tryz.prog 3 #[.agg #[.int .i64 mn, .int .i64 av, .int .i64 mx], .int .u64 (seed : Nat), .slice A p.length c, .int .u16 (from0 : Nat), .int .u16 (size0 : Nat), .agg #[.slice x0 xn xc, .int .i64 x1, .int .i64 x2]] w fun e w' => e = .returned (.bool true) ∧ Below w.heap.size w w' := by
  obtain ⟨W1, hW1⟩ : ∃ W1, (w.alloc (.cells #[.int .i64 mn, .int .i64 av, .int .i64 mx] 23)).alloc (.cells #[.slice x0 xn xc, .int .i64 x1, .int .i64 x2] 29) = W1 := ⟨_, rfl⟩
  have hb1 : Below w.heap.size w W1 := by rw [← hW1]; exact ((Below.refl _ _).alloc (Nat.le_refl _) _).alloc (by simp) _
  have HW1 := Lib.hid hW1
  have HB1 := Lib.hid hb1
  have HR := Lib.hid hr
  have HP := Lib.hid hp
  have hm := hr.max
  clear hW1 hb1 hr hp
  obtain ⟨i0, hi0, hz0, hz1, _⟩ := info_parts info_u8
  have hfore : 4000 ≤ c → _ := fun h4 => RN.fore (P := Tryz.prog) 25 5 Tryz.underlying25 hi0 hz1 A p.length c 4000 h4
  go_enter Tryz.func3, Tryz.ntmps3
  go_upto_if 41 with (rw [HW1.out])
  go_cut [2] (fun s2 wx => ∃ c2 q, q = p.take 4000 ∧ s2 = .slice A q.length c2 ∧ q.length ≤ c2 ∧ wx = W1)
  case first =>
    by_cases h4 : 4000 < p.length
    · have d4 : decide ((4000 : Int) < (p.length : Int)) = true := decide_eq_true (by omega)
      have d4' : decide (4000 < p.length) = true := decide_eq_true h4
      have hf4 := hfore (by omega)
      go_wp2_with fail
      go_meet
      exact ⟨c, _, rfl, by rw [List.length_take, Nat.min_eq_left (by omega)], by rw [List.length_take]; omega, rfl⟩
    · have d4 : decide ((4000 : Int) < (p.length : Int)) = false := decide_eq_false (by omega)
      have d4' : decide (4000 < p.length) = false := decide_eq_false h4
      go_wp2_with fail
      go_meet
      exact ⟨c, _, rfl, by rw [List.take_of_length_le (by omega)], by rw [List.length_take]; omega, rfl⟩
  case rest =>
    obtain ⟨c2, q, hq, rfl, hqc, rfl⟩ := hcut
    have hk6 : wc.heap[w.heap.size]? = some (.cells #[.int .i64 mn, .int .i64 av, .int .i64 mx] 23 (0, 0)) := by
      rw [← HW1.out]; exact (Below.heap_alloc _ _ _ (by simp)).trans (heap_alloc_new _ _)
    have hk11 : wc.heap[w.heap.size + 1]? = some (.cells #[.slice x0 xn xc, .int .i64 x1, .int .i64 x2] 29 (0, 0)) := by
      rw [← HW1.out]
      have := heap_alloc_new (w.alloc (.cells #[.int .i64 mn, .int .i64 av, .int .i64 mx] 23)) (.cells #[.slice x0 xn xc, .int .i64 x1, .int .i64 x2] 29)
      have e : (w.alloc (.cells #[.int .i64 mn, .int .i64 av, .int .i64 mx] 23)).heap.size = w.heap.size + 1 := by simp
      rw [e] at this
      exact this
    have hq0 : q.length ≤ 4000 := by rw [hq, List.length_take]; omega
    have HQ := Lib.hid hq
    have HK6 := Lib.hid hk6
    have HK11 := Lib.hid hk11
    have HRQ : Hid (RN .u8 wc A q) := Lib.hid (by
      rw [hq]
      have h1 := HR.out.below HB1.out
      by_cases h4 : 4000 ≤ p.length
      · exact h1.take 4000 h4
      · rw [List.take_of_length_le (by omega)]; exact h1)
    have HPQ : Hid (∀ x ∈ q, x < 256) := Lib.hid (fun x hx => HP.out x (by rw [hq] at hx; exact List.mem_of_mem_take hx))
    clear hq hk6 hk11 hfore
    go_wp2_with fail
    obtain ⟨gc, hgc⟩ : ∃ gc, w.heap.size = gc := ⟨_, rfl⟩
    have HGC := Lib.hid hgc
    rw [hgc] at HK6 HK11 ⊢
    have hk6 := HK6.out
    have HTB := Lib.hid (refTable_c seed hs wc.drew)
    clear hgc
    refine wp_region_late [0] (fun w' => w'.heap[gc]? = some (.cells #[.int .i64 mn, .int .i64 av, .int .i64 mx] 23 (0, 0))) (by kernel_rfl) hk6 (fun hT => ?_)
    refine WL.take (i := 0) (v := .agg #[.int .i64 mn, .int .i64 av, .int .i64 mx]) rfl (by kernel_rfl) (by kernel_rfl) (by kernel_rfl) (by kernel_rfl) (fun _ _ _ h => h) (yieldsIf_load_blk (by rfl) _ _ rfl gc (by rfl) _ _ (fun w hw => hw (by decide)) Tryz.underlying23 (by rfl) info_cut_size) (by assumption) ?_
    simp only [Act.put, List.getElem_toArray, List.getElem_cons_zero, List.getElem_cons_succ, List.setIfInBounds_toArray, List.set_cons_zero, List.set_cons_succ]
    refine WL.take (i := 1) (v := ?_) rfl (by kernel_rfl) (by kernel_rfl) (by kernel_rfl) (by kernel_rfl) (fun _ _ _ h => h) (Or.inl ⟨by rfl, ?_⟩) (by assumption) ?_
    rotate_left 1
    · (intro w' hSw; (try (replace hSw := hSw (by decide); dsimp only at hSw)); go_split_ands; go_simp; try with_reducible rfl)
    simp only [Act.put, List.getElem_toArray, List.getElem_cons_zero, List.getElem_cons_succ, List.setIfInBounds_toArray, List.set_cons_zero, List.set_cons_succ]
    refine WL.take (i := 3) (v := ?_) rfl (by kernel_rfl) (by kernel_rfl) (by kernel_rfl) (by kernel_rfl) (fun _ _ _ h => h) (Or.inl ⟨by rfl, ?_⟩) (by assumption) ?_
    rotate_left 1
    · (intro w' hSw; (try (replace hSw := hSw (by decide); dsimp only at hSw)); go_split_ands; go_simp; try with_reducible rfl)
    simp only [Act.put, List.getElem_toArray, List.getElem_cons_zero, List.getElem_cons_succ, List.setIfInBounds_toArray, List.set_cons_zero, List.set_cons_succ]
    refine WL.one (i := 2) (by kernel_rfl) rfl (fun K hK => ?_)
    go_simp
    go_at_call 5
    refine HTB.out.mono ?_
    rintro e w3 ⟨rfl, hb3⟩
    have hT3 : w3.heap[gc]? = some (.cells #[.int .i64 mn, .int .i64 av, .int .i64 mx] 23 (0, 0)) := (hb3.block gc (Array.getElem?_eq_some_iff.1 hk6).1).trans hk6
    have HALL := Lib.hid (refAll_c mn av mx (gtab seed) A c2 q w3 (gtab_len seed) (gtab_lt seed) ((HRQ.out.below (Below.refl _ wc).drew).below hb3) HPQ.out (by omega))
    have HB3 := Lib.hid hb3
    clear hb3 HTB hT
    go_simp
    refine hK.out _ _ (fun _ => hT3) ?_
    clear hK K
    refine WL.late (i := 4) (by kernel_rfl) rfl (by kernel_rfl) (fun K hK => ?_)
    go_simp
    go_at_call 4
    refine HALL.out.mono ?_
    rintro e w4 ⟨v4, okc, rfl, hrow4, hb4⟩
    obtain ⟨A4, c4, ev4, hc4, hcr4⟩ := hrow4.open
    subst ev4
    have hb14 : Below wc.heap.size wc w4 := ((Below.refl _ wc).drew.trans (HB3.out.mono (Nat.le_refl _))).trans (hb4.mono HB3.out.size)
    have hbw4 : Below w.heap.size w w4 := HB1.out.trans (hb14.mono HB1.out.size)
    have hgc4 : gc < w4.heap.size := Nat.lt_of_lt_of_le (Array.getElem?_eq_some_iff.1 HK6.out).1 hb14.size
    have hgc5 : gc + 1 < w4.heap.size := Nat.lt_of_lt_of_le (Array.getElem?_eq_some_iff.1 HK11.out).1 hb14.size
    have HK4 := Lib.hid ((hb14.block _ (Array.getElem?_eq_some_iff.1 HK11.out).1).trans HK11.out)
    have hT4 : w4.heap[gc]? = some (.cells #[.int .i64 mn, .int .i64 av, .int .i64 mx] 23 (0, 0)) := (hb4.block gc (Array.getElem?_eq_some_iff.1 hT3).1).trans hT3
    have HRQ4 := Lib.hid (HRQ.out.below hb14)
    have HCR4 := Lib.hid hcr4
    have HBW4 := Lib.hid hbw4
    clear hrow4 hcr4 hb14 hbw4 hb4 HB3 HB1 HALL HRQ HK6 HK11 hT3
    go_simp
    refine hK.out _ _ ?_
    clear hK K
    refine WL.take (i := 5) (v := ?_) rfl (by kernel_rfl) (by kernel_rfl) (by kernel_rfl) (by kernel_rfl) (fun _ _ _ h => h) (Or.inl ⟨by rfl, ?_⟩) (by assumption) ?_
    rotate_left 1
    · (intro w' hSw; (try (replace hSw := hSw (by decide); dsimp only at hSw)); go_split_ands; go_simp; try with_reducible rfl)
    simp only [Act.put, List.getElem_toArray, List.getElem_cons_zero, List.getElem_cons_succ, List.setIfInBounds_toArray, List.set_cons_zero, List.set_cons_succ]
    refine WL.take (i := 6) (v := ?_) rfl (by kernel_rfl) (by kernel_rfl) (by kernel_rfl) (by kernel_rfl) (fun _ _ _ h => h) (Or.inl ⟨by rfl, ?_⟩) (by assumption) ?_
    rotate_left 1
    · (intro w' hSw; (try (replace hSw := hSw (by decide); dsimp only at hSw)); go_split_ands; go_simp; try with_reducible rfl)
    simp only [Act.put, List.getElem_toArray, List.getElem_cons_zero, List.getElem_cons_succ, List.setIfInBounds_toArray, List.set_cons_zero, List.set_cons_succ]
    refine WL.take (i := 7) (v := ?_) rfl (by kernel_rfl) (by kernel_rfl) (by kernel_rfl) (by kernel_rfl) (fun _ _ _ h => h) (Or.inl ⟨by rfl, ?_⟩) (by assumption) ?_
    rotate_left 1
    · (intro w' hSw; (try (replace hSw := hSw (by decide); dsimp only at hSw)); go_split_ands; go_simp; try with_reducible rfl)
    simp only [Act.put, List.getElem_toArray, List.getElem_cons_zero, List.getElem_cons_succ, List.setIfInBounds_toArray, List.set_cons_zero, List.set_cons_succ]
    refine WL.take (i := 8) (v := ?_) rfl (by kernel_rfl) (by kernel_rfl) (by kernel_rfl) (by kernel_rfl) (fun _ _ _ h => h) (Or.inl ⟨by rfl, ?_⟩) (by assumption) ?_
    rotate_left 1
    · (intro w' hSw; (try (replace hSw := hSw (by decide); dsimp only at hSw)); go_split_ands; go_simp; try with_reducible rfl)
    simp only [Act.put, List.getElem_toArray, List.getElem_cons_zero, List.getElem_cons_succ, List.setIfInBounds_toArray, List.set_cons_zero, List.set_cons_succ]
    refine WL.take (i := 9) (v := ?_) rfl (by kernel_rfl) (by kernel_rfl) (by kernel_rfl) (by kernel_rfl) (fun _ _ _ h => h) (Or.inl ⟨by rfl, ?_⟩) (by assumption) ?_
    rotate_left 1
    · (intro w' hSw; (try (replace hSw := hSw (by decide); dsimp only at hSw)); go_split_ands; go_simp; try with_reducible rfl)
    simp only [Act.put, List.getElem_toArray, List.getElem_cons_zero, List.getElem_cons_succ, List.setIfInBounds_toArray, List.set_cons_zero, List.set_cons_succ]
    refine WL.done (by kernel_rfl) ?_ _
    go_wp2_with fail
    have hl4 : 0 < w4.heap.size := by omega
    clear hT4 hk6
    refine (DNew_c 4096 w4 (by decide) (by decide)).mono ?_
    rintro e w5 ⟨db, gs, mb, rfl, hd5, l1, l2, l3, hb5⟩
    obtain ⟨sb, hsb⟩ : ∃ sb, List.replicate 4096 (List.replicate 128 0) = sb := ⟨_, rfl⟩
    rw [hsb] at hd5
    clear hsb
    have hz5 := hb5.size
    have HD5 := Lib.hid hd5
    have HB5 := Lib.hid hb5
    clear hd5 hb5
    go_wp2_with fail
    refine (eNew_c 0 4096 w5 (by decide) (by decide)).mono ?_
    rintro e w6 ⟨er, rfl, l4, he6, hb6⟩
    have he6 : EM w6 w5.heap.size er 0 4096 [(offOf [], 4096 - offOf [])] := he6
    have hz6 := hb6.size
    have HD6 := Lib.hid (HD5.out.below hb6)
    have HE6 := Lib.hid (he6.lower hz5)
    have HB6 := Lib.hid (HB5.out.trans (hb6.mono hz5))
    clear he6 hb6 HD5 HB5
    go_wp2_with fail
    refine (BNew_c db er w6).mono ?_
    rintro e w7 ⟨s, rb, rfl, hs7, l5, l6, hb7⟩
    obtain ⟨W8, hW8⟩ : ∃ W8, w7.alloc (.cells #[.pointer (some ⟨s, 0, none⟩)] 43) = W8 := ⟨_, rfl⟩
    have hb78 : Below w7.heap.size w7 W8 := by rw [← hW8]; exact (Below.refl _ _).alloc (Nat.le_refl _) _
    have hz7 := hb7.size
    have hg8 : W8.heap[w7.heap.size]? = some (.cells #[.pointer (some ⟨s, 0, none⟩)] 43 (0, 0)) := by rw [← hW8]; exact heap_alloc_new _ _
    have hz8 := hb78.size
    have hz8' := (Array.getElem?_eq_some_iff.1 hg8).1
    have hb68 := hb7.trans (hb78.mono hz7)
    have hne : rb ≠ mb := by have := HD6.out.lt.2.2; omega
    have HB8 := Lib.hid (HB6.out.trans (hb68.mono (Nat.le_trans hz5 hz6)))
    have HD8 := Lib.hid (HD6.out.below hb68)
    have HE8 := Lib.hid (HE6.out.below hb68)
    have HS8 := Lib.hid (hs7.below hb78)
    have HG8 := Lib.hid hg8
    have HW8 := Lib.hid hW8
    clear hs7 hb7 hb78 hb68 hW8 hg8 HD6 HE6 HB6
    obtain ⟨gsh, hgsh⟩ : ∃ gsh, w7.heap.size = gsh := ⟨_, rfl⟩
    have HGSH := Lib.hid hgsh
    rw [hgsh] at HG8 hz8'
    have l7 : w4.heap.size ≤ gsh := by omega
    clear hgsh
    have k8 : W8.cell? ⟨gsh, 0, none⟩ = some (.pointer (some ⟨s, 0, none⟩)) := cell_of_one HG8.out
    go_upto_region 7 with (rw [HW8.out])
    rw [HGSH.out]
    have HKL := Lib.hid (KL_c W8)
    have hzz : w.heap.size ≤ w4.heap.size := HBW4.out.size
    have hz48 : w4.heap.size ≤ W8.heap.size := HB8.out.size
    have hao := fun h => allOut_ok (tb := gtab seed) (mn := mn) (av := av) (mx := mx) h HPQ.out
    have hcv := checkV_or mn av mx
    obtain ⟨cs, hcs⟩ : ∃ cs, allOut mn av mx (gtab seed) q = cs := ⟨_, rfl⟩
    rw [hcs] at HCR4 hao hc4 ⊢
    obtain ⟨cv, hcve⟩ : ∃ cv, checkV mn av mx = cv := ⟨_, rfl⟩
    rw [hcve] at hao hcv ⊢
    have HAO := Lib.hid hao
    clear hcs hcve hao
    obtain ⟨tt, htt⟩ : ∃ tt, tabA (gtab seed) = tt := ⟨_, rfl⟩
    rw [htt]
    clear htt
    rcases hcv with rfl | rfl
    rotate_left 1
    · go_wp2_with fail
      refine HKL.out.mono ?_
      rintro e w9 ⟨rfl, hb9⟩
      have HB9 := Lib.hid (HBW4.out.trans ((HB8.out.trans (hb9.mono hz48)).mono hzz))
      clear hb9
      go_wp2_with fail
      go_ret
      exact ⟨rfl, HB9.out⟩
    · by_cases h256 : 256 < cs.length
      · have d256 : decide ((256 : Int) < (cs.length : Int)) = true := decide_eq_true (by omega)
        have d256' : decide (256 < cs.length) = true := decide_eq_true h256
        go_wp2_with fail
        refine HKL.out.mono ?_
        rintro e w9 ⟨rfl, hb9⟩
        have HB9 := Lib.hid (HBW4.out.trans ((HB8.out.trans (hb9.mono hz48)).mono hzz))
        clear hb9
        go_wp2_with fail
        go_ret
        exact ⟨rfl, HB9.out⟩
      · have d256 : decide ((256 : Int) < (cs.length : Int)) = false := decide_eq_false (by omega)
        have d256' : decide (256 < cs.length) = false := decide_eq_false h256
        obtain ⟨hflat, hall⟩ := HAO.out rfl
        have HFLAT := Lib.hid hflat
        have HALL := Lib.hid hall
        clear hflat hall
        obtain ⟨W10, hW10⟩ : ∃ W10, (W8.alloc (.cells #[.slice none 0 0] 48)).alloc (.cells #[.pointer none] 49) = W10 := ⟨_, rfl⟩
        have hb10 : Below W8.heap.size W8 W10 := by rw [← hW10]; exact ((Below.refl _ _).alloc (Nat.le_refl _) _).alloc (by simp) _
        have hp10 : W10.heap[W8.heap.size]? = some (.cells #[.slice none 0 0] 48 (0, 0)) := by rw [← hW10]; exact heap_alloc2_old _ _ _
        have hk10 : W10.heap[W8.heap.size + 1]? = some (.cells #[.pointer none] 49 (0, 0)) := by
          rw [← hW10]
          have := heap_alloc_new (W8.alloc (.cells #[.slice none 0 0] 48)) (.cells #[.pointer none] 49)
          have e : (W8.alloc (.cells #[.slice none 0 0] 48)).heap.size = W8.heap.size + 1 := by simp
          rw [e] at this
          exact this
        have hst : StB w4 W10 gsh W8.heap.size (W8.heap.size + 1) s db gs mb er rb sb [] none [] (.slice none 0 0) [] :=
          ⟨⟨HB8.out.trans (hb10.mono hz48), ⟨[], [], HD8.out.below hb10, HS8.out.below hb10, OnDisk.nil _ _⟩, HE8.out.below hb10, (hb10.block _ (Array.getElem?_eq_some_iff.1 HG8.out).1).trans HG8.out, ⟨_, hp10, own_nilV _ _ _ _⟩, hne, by omega⟩,
            hk10, by omega, fun pb e => (by cases e), own_nilV _ _ _ _⟩
        obtain ⟨gp, hgp⟩ : ∃ gp, W8.heap.size = gp := ⟨_, rfl⟩
        rw [hgp] at hst hz48
        have HST := Lib.hid hst
        have HW10 := Lib.hid hW10
        have HGP := Lib.hid hgp
        clear hb10 hp10 hk10 hst hW10 hgp HB8 HD8 HS8 HE8 HG8 HKL HW8 HGSH hne
        go_wp2_with (rw [HW10.out])
        rw [HGP.out]
        go_loopw [21, 25] (fun rv vi W => L1R cs w4 gsh gp (gp + 1) s db gs mb er rb sb rv vi W) (fun _ vi _ => cs.length - (intOf vi).toNat)
        case atStart => exact ⟨0, [], none, [], Nat.zero_le _, rfl, PackI.nil _, fun _ => ⟨rfl, rfl⟩, fun pb e => (by cases e), HST.out⟩
        case round =>
          as_aux_lemma =>
            obtain ⟨i, G, kv, cur, hi, rfl, hpi, hno, hyes, hst⟩ := hrel
            have hbr := hst.a.below
            have hkc := cell_of_one hst.k
            have hpbl := hst.a.lo
            have HPI := Lib.hid hpi
            have HYES := Lib.hid hyes
            have HNO := Lib.hid hno
            have HST := Lib.hid hst
            have HBR := Lib.hid hbr
            have hszr := hbr.size
            clear hpi hyes hno hst hbr
            by_cases hlt : i < cs.length
            · have dlt : decide ((i : Int) < (cs.length : Int)) = true := decide_eq_true (by omega)
              have dlt' : decide (i < cs.length) = true := decide_eq_true hlt
              obtain ⟨g4, Bi, ci, eA4, hcell4, hci2, hrn4⟩ := HCR4.out i hlt
              subst eA4
              obtain ⟨h1, h2, h3⟩ := HALL.out cs[i] (List.getElem_mem hlt)
              obtain ⟨ch, hch⟩ : ∃ ch, cs[i] = ch := ⟨_, rfl⟩
              rw [hch] at hcell4 hci2 hrn4 h1 h2 h3
              have hl4' := block_lt_of_cell hcell4
              have hcell := (HBR.out.cell (p := ⟨g4, i, none⟩) hl4').trans hcell4
              have HCH := Lib.hid hch
              have HRN4 := Lib.hid hrn4
              have HC4 := Lib.hid hcell4
              have H3 := Lib.hid h3
              clear hch hrn4 h3 hcell4
              obtain ⟨rl, hrl⟩ : ∃ rl, refsOf 0 G ++ slRefs G.length 0 cur = rl := ⟨_, rfl⟩
              rw [hrl] at HST
              have HRL := Lib.hid hrl
              clear hrl
              obtain ⟨A21, c21, e21, hc21, _, _⟩ := RV.ofOwn HST.out.refs
              subst e21
              go_upto_region 18 with (fail)
              go_cut [106] from 89 to 145 (fun s106 wx => IfB gp wr ch.length kv cur s106 wx)
              case first =>
                as_aux_lemma =>
                  cases kv with
                  | none =>
                    have hkc' : wr.cell? ⟨gp + 1, 0, none⟩ = some (.pointer none) := hkc
                    clear hkc
                    go_quiet (fail)
                    go_wp2_with fail
                    go_meet
                    exact ⟨false, rfl, pw_below_drewN (Below.refl _ _) _, fun h => (by cases h), fun _ pb e => (by cases e)⟩
                  | some pb =>
                    have hkc' : wr.cell? ⟨gp + 1, 0, none⟩ = some (.pointer (some ⟨pb, 0, none⟩)) := hkc
                    clear hkc
                    have hch := HPI.out.ch
                    have hro := Room_c sumN pb G.length 16 cur wr.drew ((HST.out.pk pb rfl).1.below sumN (Below.refl _ _).drew) (by decide) (by decide) hch.1 hch.flat.1
                    obtain ⟨rm, hrm⟩ : ∃ rm, roomN 16 cur.length cur.flatten.length = rm := ⟨_, rfl⟩
                    rw [hrm] at hro
                    have HRO := Lib.hid hro
                    have HRM := Lib.hid hrm
                    clear hro hrm hch
                    obtain ⟨b, hb⟩ : ∃ b, decide (rm < ch.length) = b := ⟨_, rfl⟩
                    have hbi : decide ((rm : Int) < (ch.length : Int)) = b := by rw [← hb]; exact decide_eq_decide.2 (by omega)
                    refine wp_region_late [0, 3, 8] (fun w' => w'.cell? ⟨gp + 1, 0, none⟩ = some (.pointer (some ⟨pb, 0, none⟩)) ∧ w'.cell? ⟨g4, i, none⟩ = some (.slice Bi ch.length ci)) (by kernel_rfl) ⟨hkc', hcell⟩ (fun hT => ?_)
                    refine WL.take (i := 0) (v := ?_) rfl (by kernel_rfl) (by kernel_rfl) (by kernel_rfl) (by kernel_rfl) (fun _ _ _ h => h) (Or.inl ⟨by rfl, ?_⟩) (by assumption) ?_
                    rotate_left 1
                    · (intro w' hSw; (try (replace hSw := hSw (by decide); dsimp only at hSw)); go_split_ands; go_simp; try with_reducible rfl)
                    simp only [Act.put, List.getElem_toArray, List.getElem_cons_zero, List.getElem_cons_succ, List.setIfInBounds_toArray, List.set_cons_zero, List.set_cons_succ]
                    refine WL.take (i := 1) (v := ?_) rfl (by kernel_rfl) (by kernel_rfl) (by kernel_rfl) (by kernel_rfl) (fun _ _ _ h => h) (Or.inl ⟨by rfl, ?_⟩) (by assumption) ?_
                    rotate_left 1
                    · (intro w' hSw; (try (replace hSw := hSw (by decide); dsimp only at hSw)); go_split_ands; go_simp; try with_reducible rfl)
                    simp only [Act.put, List.getElem_toArray, List.getElem_cons_zero, List.getElem_cons_succ, List.setIfInBounds_toArray, List.set_cons_zero, List.set_cons_succ]
                    refine WL.take (i := 2) (v := ?_) rfl (by kernel_rfl) (by kernel_rfl) (by kernel_rfl) (by kernel_rfl) (fun _ _ _ h => h) (Or.inl ⟨by rfl, ?_⟩) (by assumption) ?_
                    rotate_left 1
                    · (intro w' hSw; (try (replace hSw := hSw (by decide); dsimp only at hSw)); go_split_ands; go_simp; try with_reducible rfl)
                    simp only [Act.put, List.getElem_toArray, List.getElem_cons_zero, List.getElem_cons_succ, List.setIfInBounds_toArray, List.set_cons_zero, List.set_cons_succ]
                    refine WL.take (i := 3) (v := ?_) rfl (by kernel_rfl) (by kernel_rfl) (by kernel_rfl) (by kernel_rfl) (fun _ _ _ h => h) (Or.inl ⟨by rfl, ?_⟩) (by assumption) ?_
                    rotate_left 1
                    · (intro w' hSw; (try (replace hSw := hSw (by decide); dsimp only at hSw)); go_split_ands; go_simp; try with_reducible rfl)
                    simp only [Act.put, List.getElem_toArray, List.getElem_cons_zero, List.getElem_cons_succ, List.setIfInBounds_toArray, List.set_cons_zero, List.set_cons_succ]
                    refine WL.take (i := 5) (v := ?_) rfl (by kernel_rfl) (by kernel_rfl) (by kernel_rfl) (by kernel_rfl) (fun _ _ _ h => h) (Or.inl ⟨by rfl, ?_⟩) (by assumption) ?_
                    rotate_left 1
                    · (intro w' hSw; (try (replace hSw := hSw (by decide); dsimp only at hSw)); go_split_ands; go_simp; try with_reducible rfl)
                    simp only [Act.put, List.getElem_toArray, List.getElem_cons_zero, List.getElem_cons_succ, List.setIfInBounds_toArray, List.set_cons_zero, List.set_cons_succ]
                    refine WL.take (i := 6) (v := ?_) rfl (by kernel_rfl) (by kernel_rfl) (by kernel_rfl) (by kernel_rfl) (fun _ _ _ h => h) (Or.inl ⟨by rfl, ?_⟩) (by assumption) ?_
                    rotate_left 1
                    · (intro w' hSw; (try (replace hSw := hSw (by decide); dsimp only at hSw)); go_split_ands; go_simp; try with_reducible rfl)
                    simp only [Act.put, List.getElem_toArray, List.getElem_cons_zero, List.getElem_cons_succ, List.setIfInBounds_toArray, List.set_cons_zero, List.set_cons_succ]
                    refine WL.take (i := 7) (v := ?_) rfl (by kernel_rfl) (by kernel_rfl) (by kernel_rfl) (by kernel_rfl) (fun _ _ _ h => h) (Or.inl ⟨by rfl, ?_⟩) (by assumption) ?_
                    rotate_left 1
                    · (intro w' hSw; (try (replace hSw := hSw (by decide); dsimp only at hSw)); go_split_ands; go_simp; try with_reducible rfl)
                    simp only [Act.put, List.getElem_toArray, List.getElem_cons_zero, List.getElem_cons_succ, List.setIfInBounds_toArray, List.set_cons_zero, List.set_cons_succ]
                    refine WL.take (i := 8) (v := ?_) rfl (by kernel_rfl) (by kernel_rfl) (by kernel_rfl) (by kernel_rfl) (fun _ _ _ h => h) (Or.inl ⟨by rfl, ?_⟩) (by assumption) ?_
                    rotate_left 1
                    · (intro w' hSw; (try (replace hSw := hSw (by decide); dsimp only at hSw)); go_split_ands; go_simp; try with_reducible rfl)
                    simp only [Act.put, List.getElem_toArray, List.getElem_cons_zero, List.getElem_cons_succ, List.setIfInBounds_toArray, List.set_cons_zero, List.set_cons_succ]
                    refine WL.take (i := 9) (v := ?_) rfl (by kernel_rfl) (by kernel_rfl) (by kernel_rfl) (by kernel_rfl) (fun _ _ _ h => h) (Or.inl ⟨by rfl, ?_⟩) (by assumption) ?_
                    rotate_left 1
                    · (intro w' hSw; (try (replace hSw := hSw (by decide); dsimp only at hSw)); go_split_ands; go_simp; try with_reducible rfl)
                    simp only [Act.put, List.getElem_toArray, List.getElem_cons_zero, List.getElem_cons_succ, List.setIfInBounds_toArray, List.set_cons_zero, List.set_cons_succ]
                    refine WL.one (i := 4) (by kernel_rfl) rfl (fun K hK => ?_)
                    go_simp
                    refine HRO.out.mono ?_
                    rintro e w2 ⟨rfl, hb2⟩
                    have HB2 := Lib.hid (show Below wr.heap.size wr w2 from (Below.refl _ wr).drew.trans hb2)
                    have hT2 : w2.cell? ⟨gp + 1, 0, none⟩ = some (.pointer (some ⟨pb, 0, none⟩)) ∧ w2.cell? ⟨g4, i, none⟩ = some (.slice Bi ch.length ci) := ⟨(HB2.out.cell (block_lt_of_cell hkc')).trans hkc', (HB2.out.cell (block_lt_of_cell hcell)).trans hcell⟩
                    clear hb2
                    go_simp
                    refine hK.out _ _ (fun _ => hT2) ?_
                    clear hK K
                    refine WL.take (i := 10) (v := ?_) rfl (by kernel_rfl) (by kernel_rfl) (by kernel_rfl) (by kernel_rfl) (fun _ _ _ h => h) (Or.inl ⟨by rfl, ?_⟩) (by assumption) ?_
                    rotate_left 1
                    · (intro w' hSw; (try (replace hSw := hSw (by decide); dsimp only at hSw)); go_split_ands; go_simp; try with_reducible rfl)
                    simp only [Act.put, List.getElem_toArray, List.getElem_cons_zero, List.getElem_cons_succ, List.setIfInBounds_toArray, List.set_cons_zero, List.set_cons_succ]
                    refine WL.take (i := 11) (v := ?_) rfl (by kernel_rfl) (by kernel_rfl) (by kernel_rfl) (by kernel_rfl) (fun _ _ _ h => h) (Or.inl ⟨by rfl, ?_⟩) (by assumption) ?_
                    rotate_left 1
                    · (intro w' hSw; (try (replace hSw := hSw (by decide); dsimp only at hSw)); go_split_ands; go_simp; try with_reducible rfl)
                    simp only [Act.put, List.getElem_toArray, List.getElem_cons_zero, List.getElem_cons_succ, List.setIfInBounds_toArray, List.set_cons_zero, List.set_cons_succ]
                    refine WL.done (by kernel_rfl) ?_ _
                    go_wp2_with fail
                    go_meet
                    exact ⟨b, rfl, HB2.out, fun h => ⟨pb, rfl, by rw [HRM.out]; exact of_decide_eq_true (hb.trans h)⟩, fun h pb' e => (by cases e; rw [HRM.out]; have := of_decide_eq_false (hb.trans h); omega)⟩
              case rest =>
                obtain ⟨b, rfl, hbx, hbt, hbf⟩ := hcut
                have HS2 := Lib.hid (HST.out.next hbx)
                have HBT := Lib.hid hbt
                have HBF := Lib.hid hbf
                clear hbx hbt hbf hkc hcell HST HBR
                go_upto_if 106 with (fail)
                go_cut [] from 89 to 145 (fun wx => L1M cs w4 gsh gp (gp + 1) s db gs mb er rb sb i ch.length (.slice A21 rl.length c21) rl wx)
                case first =>
                  as_aux_lemma =>
                    cases b with
                    | false =>
                      go_wp2_with fail
                      go_meet
                      exact ⟨G, kv, cur, HPI.out, fun e => (HNO.out e).1, HBF.out (by trivial), HRL.out.symm, HS2.out⟩
                    | true =>
                      obtain ⟨pb, rfl, hfull⟩ := HBT.out rfl
                      have few := HPI.out.few (by omega) (by rw [HFLAT.out]; exact hq0)
                      have HSL := Lib.hid (SealG_c wc HS2.out.a HS2.out.k (HS2.out.pk pb rfl).1 HPI.out.ch (HYES.out pb rfl) HPI.out.sz few HS2.out.refs)
                      have HFULL := Lib.hid hfull
                      clear hfull few
                      go_wp2_with fail
                      refine HSL.out.mono ?_
                      rintro e w3 ⟨rfl, ha3, hk3, hr3⟩
                      have HP3 := Lib.hid (StB.put ha3 hk3 HS2.out.lo hr3 none [] (fun pb e => (by cases e)))
                      have kp3 := cell_of_one hk3
                      have kf3 : w3.frozen? ⟨gp + 1, 0, none⟩ = false := frozen_of_row _ _ _ _ _ hk3
                      clear ha3 hk3 hr3
                      go_wp2_with fail
                      go_meet
                      exact ⟨G ++ [cur], none, [], HPI.out.shut (HYES.out pb rfl) h2 HFULL.out, fun _ => rfl, fun pb e => (by cases e), by rw [← HRL.out, refsOf_snoc, Nat.zero_add]; simp [slRefs], HP3.out⟩
                case rest =>
                  obtain ⟨G2, kv2, cur2, hpi2, hno2, hroom2, hrl2, hst2⟩ := hcut
                  obtain ⟨X, hX⟩ : ∃ X, X = wc := ⟨_, rfl⟩
                  subst hX
                  have hkc2 := cell_of_one hst2.k
                  have HPI2 := Lib.hid hpi2
                  have HNO2 := Lib.hid hno2
                  have HROOM2 := Lib.hid hroom2
                  have HRL2 := Lib.hid hrl2
                  have HST2 := Lib.hid hst2
                  clear hpi2 hno2 hroom2 hrl2 hst2 HS2 HBT HBF HPI HYES HNO HRL
                  go_upto_region 22 with (fail)
                  go_cut [111] from 89 to 145 (fun s111 wx => s111 = .bool kv2.isNone ∧ wx = X)
                  case first =>
                    cases kv2 with
                    | none =>
                      have hkc' : X.cell? ⟨gp + 1, 0, none⟩ = some (.pointer none) := hkc2
                      clear hkc2
                      go_wp2_with fail
                      go_meet
                      exact ⟨rfl, rfl⟩
                    | some pb =>
                      have hkc' : X.cell? ⟨gp + 1, 0, none⟩ = some (.pointer (some ⟨pb, 0, none⟩)) := hkc2
                      clear hkc2
                      go_wp2_with fail
                      go_meet
                      exact ⟨rfl, rfl⟩
                  case rest =>
                    obtain ⟨rfl, rfl⟩ := hcut
                    clear hkc2
                    go_upto_if 111 with (fail)
                    go_cut [] from 89 to 145 (fun wx => L1N cs w4 gsh gp (gp + 1) s db gs mb er rb sb i ch.length (.slice A21 rl.length c21) rl wx)
                    case first =>
                      as_aux_lemma =>
                        cases kv2 with
                        | none =>
                          obtain ⟨AP, cP, kP, hcP, _⟩ := HST2.out.a.pl.cells
                          rw [plFrom_len] at kP
                          have few := HPI2.out.few (by omega) (by rw [HFLAT.out]; exact hq0)
                          have HNW := Lib.hid (New_c sumN G2.length 16 wc (by omega) (by decide) (by decide))
                          go_wp2_with fail
                          refine HNW.out.mono ?_
                          rintro e w3 ⟨pb, rfl, lb, hp3, hb3⟩
                          have hst3 := HST2.out.next hb3
                          have HP3 := Lib.hid (StB.put hst3.a hst3.k hst3.lo hst3.refs (some pb) [] (fun pb' e => (by cases e; exact ⟨hp3, Nat.le_trans HST2.out.a.below.size lb⟩)))
                          have kp3 := cell_of_one hst3.k
                          have kf3 : w3.frozen? ⟨gp + 1, 0, none⟩ = false := frozen_of_row _ _ _ _ _ hst3.k
                          clear hst3 hp3 hb3
                          go_wp2_with fail
                          go_meet
                          obtain rfl := HNO2.out (by trivial)
                          exact ⟨G2, pb, [], HPI2.out, room_new h2, HRL2.out, HP3.out⟩
                        | some pb =>
                          go_wp2_with fail
                          go_meet
                          exact ⟨G2, pb, cur2, HPI2.out, HROOM2.out pb rfl, HRL2.out, HST2.out⟩
                    case rest =>
                      as_aux_lemma =>
                        obtain ⟨G3, pb, cur3, hpi3, hroom3, hrl3, hst3⟩ := hcut
                        clear HPI2 HNO2 HROOM2 HRL2 HST2
                        obtain ⟨Y, hY⟩ : ∃ Y, Y = wc := ⟨_, rfl⟩
                        subst hY
                        have hsz3 := hpi3.sz
                        have hck3 : Y.cell? ⟨gp + 1, 0, none⟩ = some (.pointer (some ⟨pb, 0, none⟩)) := cell_of_one hst3.k
                        have hcell3 := (hst3.a.below.cell (p := ⟨g4, i, none⟩) hl4').trans HC4.out
                        have hadd := Add_ok pb G3.length 16 cur3 Bi ci ch Y.drew ((hst3.pk pb rfl).1.below sumN (Below.refl _ _).drew) (by decide) (by decide) hpi3.ch.1 hpi3.ch.flat.1 ((HRN4.out.below hst3.a.below).below (Below.refl _ _).drew) H3.out (add_ok h1 h2 (by unfold gsz at hsz3; omega) hroom3)
                        have HADD := Lib.hid hadd
                        have HPI3 := Lib.hid hpi3
                        have HROOM3 := Lib.hid hroom3
                        have HRL3 := Lib.hid hrl3
                        have HST3 := Lib.hid hst3
                        clear hadd hpi3 hroom3 hrl3 hst3 hsz3
                        go_upto_region 24 with (fail)
                        refine wp_region_late [0, 4] (fun w' => w'.cell? ⟨gp + 1, 0, none⟩ = some (.pointer (some ⟨pb, 0, none⟩)) ∧ w'.cell? ⟨g4, i, none⟩ = some (.slice Bi ch.length ci)) (by kernel_rfl) ⟨hck3, hcell3⟩ (fun hT => ?_)
                        refine WL.take (i := 0) (v := ?_) rfl (by kernel_rfl) (by kernel_rfl) (by kernel_rfl) (by kernel_rfl) (fun _ _ _ h => h) (Or.inl ⟨by rfl, ?_⟩) (by assumption) ?_
                        rotate_left 1
                        · (intro w' hSw; (try (replace hSw := hSw (by decide); dsimp only at hSw)); go_split_ands; go_simp; try with_reducible rfl)
                        simp only [Act.put, List.getElem_toArray, List.getElem_cons_zero, List.getElem_cons_succ, List.setIfInBounds_toArray, List.set_cons_zero, List.set_cons_succ]
                        refine WL.take (i := 1) (v := ?_) rfl (by kernel_rfl) (by kernel_rfl) (by kernel_rfl) (by kernel_rfl) (fun _ _ _ h => h) (Or.inl ⟨by rfl, ?_⟩) (by assumption) ?_
                        rotate_left 1
                        · (intro w' hSw; (try (replace hSw := hSw (by decide); dsimp only at hSw)); go_split_ands; go_simp; try with_reducible rfl)
                        simp only [Act.put, List.getElem_toArray, List.getElem_cons_zero, List.getElem_cons_succ, List.setIfInBounds_toArray, List.set_cons_zero, List.set_cons_succ]
                        refine WL.take (i := 2) (v := ?_) rfl (by kernel_rfl) (by kernel_rfl) (by kernel_rfl) (by kernel_rfl) (fun _ _ _ h => h) (Or.inl ⟨by rfl, ?_⟩) (by assumption) ?_
                        rotate_left 1
                        · (intro w' hSw; (try (replace hSw := hSw (by decide); dsimp only at hSw)); go_split_ands; go_simp; try with_reducible rfl)
                        simp only [Act.put, List.getElem_toArray, List.getElem_cons_zero, List.getElem_cons_succ, List.setIfInBounds_toArray, List.set_cons_zero, List.set_cons_succ]
                        refine WL.take (i := 3) (v := ?_) rfl (by kernel_rfl) (by kernel_rfl) (by kernel_rfl) (by kernel_rfl) (fun _ _ _ h => h) (Or.inl ⟨by rfl, ?_⟩) (by assumption) ?_
                        rotate_left 1
                        · (intro w' hSw; (try (replace hSw := hSw (by decide); dsimp only at hSw)); go_split_ands; go_simp; try with_reducible rfl)
                        simp only [Act.put, List.getElem_toArray, List.getElem_cons_zero, List.getElem_cons_succ, List.setIfInBounds_toArray, List.set_cons_zero, List.set_cons_succ]
                        refine WL.take (i := 4) (v := ?_) rfl (by kernel_rfl) (by kernel_rfl) (by kernel_rfl) (by kernel_rfl) (fun _ _ _ h => h) (Or.inl ⟨by rfl, ?_⟩) (by assumption) ?_
                        rotate_left 1
                        · (intro w' hSw; (try (replace hSw := hSw (by decide); dsimp only at hSw)); go_split_ands; go_simp; try with_reducible rfl)
                        simp only [Act.put, List.getElem_toArray, List.getElem_cons_zero, List.getElem_cons_succ, List.setIfInBounds_toArray, List.set_cons_zero, List.set_cons_succ]
                        refine WL.one (i := 5) (by kernel_rfl) rfl (fun K hK => ?_)
                        go_simp
                        refine HADD.out.mono ?_
                        rintro e w6 ⟨rfl, hp6, hg6⟩
                        have hst6 := (HST3.out.next (Below.refl _ Y).drew).add hp6 hg6
                        have hT6 : w6.cell? ⟨gp + 1, 0, none⟩ = some (.pointer (some ⟨pb, 0, none⟩)) ∧ w6.cell? ⟨g4, i, none⟩ = some (.slice Bi ch.length ci) := ⟨cell_of_one hst6.k, (hst6.a.below.cell (p := ⟨g4, i, none⟩) hl4').trans HC4.out⟩
                        have HST6 := Lib.hid hst6
                        clear hp6 hg6 hst6 HADD HST3 hck3 hcell3
                        go_simp
                        refine hK.out _ _ (fun _ => hT6) ?_
                        clear hK K hT
                        refine WL.take (i := 6) (v := ?_) rfl (by kernel_rfl) (by kernel_rfl) (by kernel_rfl) (by kernel_rfl) (fun _ _ _ h => h) (Or.inl ⟨by rfl, ?_⟩) (by assumption) ?_
                        rotate_left 1
                        · (intro w' hSw; (try (replace hSw := hSw (by decide); dsimp only at hSw)); go_split_ands; go_simp; try with_reducible rfl)
                        simp only [Act.put, List.getElem_toArray, List.getElem_cons_zero, List.getElem_cons_succ, List.setIfInBounds_toArray, List.set_cons_zero, List.set_cons_succ]
                        refine WL.take (i := 7) (v := ?_) rfl (by kernel_rfl) (by kernel_rfl) (by kernel_rfl) (by kernel_rfl) (fun _ _ _ h => h) (Or.inl ⟨by rfl, ?_⟩) (by assumption) ?_
                        rotate_left 1
                        · (intro w' hSw; (try (replace hSw := hSw (by decide); dsimp only at hSw)); go_split_ands; go_simp; try with_reducible rfl)
                        simp only [Act.put, List.getElem_toArray, List.getElem_cons_zero, List.getElem_cons_succ, List.setIfInBounds_toArray, List.set_cons_zero, List.set_cons_succ]
                        refine WL.take (i := 8) (v := ?_) rfl (by kernel_rfl) (by kernel_rfl) (by kernel_rfl) (by kernel_rfl) (fun _ _ _ h => h) (Or.inl ⟨by rfl, ?_⟩) (by assumption) ?_
                        rotate_left 1
                        · (intro w' hSw; (try (replace hSw := hSw (by decide); dsimp only at hSw)); go_split_ands; go_simp; try with_reducible rfl)
                        simp only [Act.put, List.getElem_toArray, List.getElem_cons_zero, List.getElem_cons_succ, List.setIfInBounds_toArray, List.set_cons_zero, List.set_cons_succ]
                        refine WL.take (i := 9) (v := ?_) rfl (by kernel_rfl) (by kernel_rfl) (by kernel_rfl) (by kernel_rfl) (fun _ _ _ h => h) (Or.inl ⟨by rfl, ?_⟩) (by assumption) ?_
                        rotate_left 1
                        · (intro w' hSw; (try (replace hSw := hSw (by decide); dsimp only at hSw)); go_split_ands; go_simp; try with_reducible rfl)
                        simp only [Act.put, List.getElem_toArray, List.getElem_cons_zero, List.getElem_cons_succ, List.setIfInBounds_toArray, List.set_cons_zero, List.set_cons_succ]
                        refine WL.take (i := 10) (v := ?_) rfl (by kernel_rfl) (by kernel_rfl) (by kernel_rfl) (by kernel_rfl) (fun _ _ _ h => h) (Or.inl ⟨by rfl, ?_⟩) (by assumption) ?_
                        rotate_left 1
                        · (intro w' hSw; (try (replace hSw := hSw (by decide); dsimp only at hSw)); go_split_ands; go_simp; try with_reducible rfl)
                        simp only [Act.put, List.getElem_toArray, List.getElem_cons_zero, List.getElem_cons_succ, List.setIfInBounds_toArray, List.set_cons_zero, List.set_cons_succ]
                        refine WL.done (by kernel_rfl) ?_ _
                        go_upto_region 27 with (fail)
                        as_aux_lemma =>
                          obtain ⟨AP, cP, kP, hcP, _⟩ := HST6.out.a.pl.cells
                          rw [plFrom_len] at kP
                          have hcell6 := hT6.2
                          have hsum := digSum_c Bi ci ch w6.drew ((HRN4.out.below HST6.out.a.below).below (Below.refl _ _).drew) H3.out (by omega)
                          have hbt := built_ref (sumN ch) (ch.length : Nat) (G3.length : Nat) (cur3.length : Nat) (sumN_len ch)
                          have hrf : (sumN ch).map (encN .u8) ++ [Value.int .i64 (ch.length : Nat), Value.int .i64 (G3.length : Nat), Value.int .i64 (cur3.length : Nat)] = rfCells (sumN ch, ch.length, G3.length, cur3.length) := rfl
                          rw [hrf] at hbt
                          have hCl := rfCells_len (r := (sumN ch, ch.length, G3.length, cur3.length)) (sumN_len ch)
                          have hC1 := rfCells_one (sumN ch, ch.length, G3.length, cur3.length)
                          obtain ⟨Cl, hC⟩ : ∃ Cl, rfCells (sumN ch, ch.length, G3.length, cur3.length) = Cl := ⟨_, rfl⟩
                          rw [shaA_eq] at hsum
                          obtain ⟨R, hR⟩ : ∃ R, ((sumN ch).map (encN .u8)).toArray = R := ⟨_, rfl⟩
                          rw [hC, hR] at hbt
                          rw [hR] at hsum
                          rw [hC] at hCl hC1
                          have HC := Lib.hid hC
                          have HCL := Lib.hid hCl
                          have HC1 := Lib.hid hC1
                          have HSUM := Lib.hid hsum
                          have HBT := Lib.hid hbt
                          clear hC hCl hC1 hsum hbt hR hrf hT6
                          have hrln : rl.length ≤ 256 := by
                            have e := congrArg List.length HPI3.out.cat
                            rw [HRL3.out, List.length_append, refsOf_len, slRefs_len]
                            rw [List.length_append] at e
                            have := List.length_take_le' i cs
                            omega
                          refine wp_region_late [4, 9, 11] (fun w' => w'.cell? ⟨g4, i, none⟩ = some (.slice Bi ch.length ci) ∧ w'.cell? ⟨gp, 0, none⟩ = some (.slice AP G3.length cP)) (by kernel_rfl) ⟨hcell6, kP⟩ (fun hT => ?_)
                          refine WL.take (i := 0) (v := ?_) rfl (by kernel_rfl) (by kernel_rfl) (by kernel_rfl) (by kernel_rfl) (fun _ _ _ h => h) (Or.inl ⟨by rfl, ?_⟩) (by assumption) ?_
                          rotate_left 1
                          · (intro w' hSw; (try (replace hSw := hSw (by decide); dsimp only at hSw)); go_split_ands; go_simp; try with_reducible rfl)
                          simp only [Act.put, List.getElem_toArray, List.getElem_cons_zero, List.getElem_cons_succ, List.setIfInBounds_toArray, List.set_cons_zero, List.set_cons_succ]
                          refine WL.take (i := 1) (v := ?_) rfl (by kernel_rfl) (by kernel_rfl) (by kernel_rfl) (by kernel_rfl) (fun _ _ _ h => h) (Or.inl ⟨by rfl, ?_⟩) (by assumption) ?_
                          rotate_left 1
                          · (intro w' hSw; (try (replace hSw := hSw (by decide); dsimp only at hSw)); go_split_ands; go_simp; try with_reducible rfl)
                          simp only [Act.put, List.getElem_toArray, List.getElem_cons_zero, List.getElem_cons_succ, List.setIfInBounds_toArray, List.set_cons_zero, List.set_cons_succ]
                          refine WL.take (i := 2) (v := ?_) rfl (by kernel_rfl) (by kernel_rfl) (by kernel_rfl) (by kernel_rfl) (fun _ _ _ h => h) (Or.inl ⟨by rfl, ?_⟩) (by assumption) ?_
                          rotate_left 1
                          · (intro w' hSw; (try (replace hSw := hSw (by decide); dsimp only at hSw)); go_split_ands; go_simp; try with_reducible rfl)
                          simp only [Act.put, List.getElem_toArray, List.getElem_cons_zero, List.getElem_cons_succ, List.setIfInBounds_toArray, List.set_cons_zero, List.set_cons_succ]
                          refine WL.take (i := 3) (v := ?_) rfl (by kernel_rfl) (by kernel_rfl) (by kernel_rfl) (by kernel_rfl) (fun _ _ _ h => h) (Or.inl ⟨by rfl, ?_⟩) (by assumption) ?_
                          rotate_left 1
                          · (intro w' hSw; (try (replace hSw := hSw (by decide); dsimp only at hSw)); go_split_ands; go_simp; try with_reducible rfl)
                          simp only [Act.put, List.getElem_toArray, List.getElem_cons_zero, List.getElem_cons_succ, List.setIfInBounds_toArray, List.set_cons_zero, List.set_cons_succ]
                          refine WL.take (i := 4) (v := ?_) rfl (by kernel_rfl) (by kernel_rfl) (by kernel_rfl) (by kernel_rfl) (fun _ _ _ h => h) (Or.inl ⟨by rfl, ?_⟩) (by assumption) ?_
                          rotate_left 1
                          · (intro w' hSw; (try (replace hSw := hSw (by decide); dsimp only at hSw)); go_split_ands; go_simp; try with_reducible rfl)
                          simp only [Act.put, List.getElem_toArray, List.getElem_cons_zero, List.getElem_cons_succ, List.setIfInBounds_toArray, List.set_cons_zero, List.set_cons_succ]
                          refine WL.take (i := 6) (v := ?_) rfl (by kernel_rfl) (by kernel_rfl) (by kernel_rfl) (by kernel_rfl) (fun _ _ _ h => h) (Or.inl ⟨by rfl, ?_⟩) (by assumption) ?_
                          rotate_left 1
                          · (intro w' hSw; (try (replace hSw := hSw (by decide); dsimp only at hSw)); go_split_ands; go_simp; try with_reducible rfl)
                          simp only [Act.put, List.getElem_toArray, List.getElem_cons_zero, List.getElem_cons_succ, List.setIfInBounds_toArray, List.set_cons_zero, List.set_cons_succ]
                          refine WL.take (i := 7) (v := ?_) rfl (by kernel_rfl) (by kernel_rfl) (by kernel_rfl) (by kernel_rfl) (fun _ _ _ h => h) (Or.inl ⟨by rfl, ?_⟩) (by assumption) ?_
                          rotate_left 1
                          · (intro w' hSw; (try (replace hSw := hSw (by decide); dsimp only at hSw)); go_split_ands; go_simp; try with_reducible rfl)
                          simp only [Act.put, List.getElem_toArray, List.getElem_cons_zero, List.getElem_cons_succ, List.setIfInBounds_toArray, List.set_cons_zero, List.set_cons_succ]
                          refine WL.take (i := 8) (v := ?_) rfl (by kernel_rfl) (by kernel_rfl) (by kernel_rfl) (by kernel_rfl) (fun _ _ _ h => h) (Or.inl ⟨by rfl, ?_⟩) (by assumption) ?_
                          rotate_left 1
                          · (intro w' hSw; (try (replace hSw := hSw (by decide); dsimp only at hSw)); go_split_ands; go_simp; try with_reducible rfl)
                          simp only [Act.put, List.getElem_toArray, List.getElem_cons_zero, List.getElem_cons_succ, List.setIfInBounds_toArray, List.set_cons_zero, List.set_cons_succ]
                          refine WL.take (i := 9) (v := ?_) rfl (by kernel_rfl) (by kernel_rfl) (by kernel_rfl) (by kernel_rfl) (fun _ _ _ h => h) (Or.inl ⟨by rfl, ?_⟩) (by assumption) ?_
                          rotate_left 1
                          · (intro w' hSw; (try (replace hSw := hSw (by decide); dsimp only at hSw)); go_split_ands; go_simp; try with_reducible rfl)
                          simp only [Act.put, List.getElem_toArray, List.getElem_cons_zero, List.getElem_cons_succ, List.setIfInBounds_toArray, List.set_cons_zero, List.set_cons_succ]
                          refine WL.take (i := 10) (v := ?_) rfl (by kernel_rfl) (by kernel_rfl) (by kernel_rfl) (by kernel_rfl) (fun _ _ _ h => h) (Or.inl ⟨by rfl, ?_⟩) (by assumption) ?_
                          rotate_left 1
                          · (intro w' hSw; (try (replace hSw := hSw (by decide); dsimp only at hSw)); go_split_ands; go_simp; try with_reducible rfl)
                          simp only [Act.put, List.getElem_toArray, List.getElem_cons_zero, List.getElem_cons_succ, List.setIfInBounds_toArray, List.set_cons_zero, List.set_cons_succ]
                          refine WL.take (i := 11) (v := ?_) rfl (by kernel_rfl) (by kernel_rfl) (by kernel_rfl) (by kernel_rfl) (fun _ _ _ h => h) (Or.inl ⟨by rfl, ?_⟩) (by assumption) ?_
                          rotate_left 1
                          · (intro w' hSw; (try (replace hSw := hSw (by decide); dsimp only at hSw)); go_split_ands; go_simp; try with_reducible rfl)
                          simp only [Act.put, List.getElem_toArray, List.getElem_cons_zero, List.getElem_cons_succ, List.setIfInBounds_toArray, List.set_cons_zero, List.set_cons_succ]
                          refine WL.take (i := 12) (v := ?_) rfl (by kernel_rfl) (by kernel_rfl) (by kernel_rfl) (by kernel_rfl) (fun _ _ _ h => h) (Or.inl ⟨by rfl, ?_⟩) (by assumption) ?_
                          rotate_left 1
                          · (intro w' hSw; (try (replace hSw := hSw (by decide); dsimp only at hSw)); go_split_ands; go_simp; try with_reducible rfl)
                          simp only [Act.put, List.getElem_toArray, List.getElem_cons_zero, List.getElem_cons_succ, List.setIfInBounds_toArray, List.set_cons_zero, List.set_cons_succ]
                          refine WL.take (i := 13) (v := ?_) rfl (by kernel_rfl) (by kernel_rfl) (by kernel_rfl) (by kernel_rfl) (fun _ _ _ h => h) (Or.inl ⟨by rfl, ?_⟩) (by assumption) ?_
                          rotate_left 1
                          · (intro w' hSw; (try (replace hSw := hSw (by decide); dsimp only at hSw)); go_split_ands; go_simp; try with_reducible rfl)
                          simp only [Act.put, List.getElem_toArray, List.getElem_cons_zero, List.getElem_cons_succ, List.setIfInBounds_toArray, List.set_cons_zero, List.set_cons_succ]
                          refine WL.one (i := 5) (by kernel_rfl) rfl (fun K hK => ?_)
                          go_simp
                          refine HSUM.out.mono ?_
                          rintro e w7 ⟨rfl, hb7⟩
                          have hb67 : Below w6.heap.size w6 w7 := (Below.refl _ w6).drew.trans hb7
                          have hT7 : w7.cell? ⟨g4, i, none⟩ = some (.slice Bi ch.length ci) ∧ w7.cell? ⟨gp, 0, none⟩ = some (.slice AP G3.length cP) := ⟨(hb67.cell (block_lt_of_cell hcell6)).trans hcell6, (hb67.cell (block_lt_of_cell kP)).trans kP⟩
                          have HST7 := Lib.hid (HST6.out.next hb67)
                          clear hb67 hb7 HST6 HSUM hcell6 kP
                          go_simp
                          refine hK.out _ _ (fun _ => hT7) ?_
                          clear hK K hT
                          refine WL.take (i := 14) (v := .agg Cl.toArray) rfl (by kernel_rfl) (by kernel_rfl) (by kernel_rfl) (by kernel_rfl) (fun _ _ _ h => h) (yields_build4 (by rfl) 64 (.tmp 134) (.tmp 139) (.tmp 141) (.tmp 142) (by rfl) _ _ _ _ (by rfl) (by rfl) (by rfl) (by rfl) Cl.toArray HBT.out) hT7 ?_
                          simp only [Act.put, List.getElem_toArray, List.getElem_cons_zero, List.getElem_cons_succ, List.setIfInBounds_toArray, List.set_cons_zero, List.set_cons_succ]
                          refine WL.one (i := 15) (by kernel_rfl) rfl (fun K hK => ?_)
                          rw [if_pos (by rfl)]
                          refine wp_buildSlice1 47 64 (.tmp 143) (by rfl) Cl.toArray 35 Tryz.underlying47 infoRf2 (by rw [List.size_toArray]; exact HCL.out) (by decide) (by decide) (by rfl) ?_
                          go_simp
                          have hbn : Below w7.heap.size w7 (w7.alloc (.cells Cl.toArray 64)) := (Below.refl _ _).alloc (Nat.le_refl _) _
                          have hrv := RV_new 64 w7 Cl 1 (by decide)
                          have hst8 := HST7.out.next hbn
                          have hT8 : (w7.alloc (.cells Cl.toArray 64)).cell? ⟨g4, i, none⟩ = some (.slice Bi ch.length ci) ∧ (w7.alloc (.cells Cl.toArray 64)).cell? ⟨gp, 0, none⟩ = some (.slice AP G3.length cP) := ⟨(hbn.cell (block_lt_of_cell hT7.1)).trans hT7.1, (hbn.cell (block_lt_of_cell hT7.2)).trans hT7.2⟩
                          refine hK.out _ _ (fun _ => hT8) ?_
                          clear hK K hbn hT8
                          generalize w7.alloc (.cells Cl.toArray 64) = w8 at hrv hst8 ⊢
                          generalize w7.heap.size = g8 at hrv ⊢
                          refine WL.late (i := 16) (by kernel_rfl) rfl (by kernel_rfl) (fun K hK => ?_)
                          rw [if_pos (by rfl)]
                          refine wp_append_RV w4.heap.size (.tmp 129) (.tmp 144) 47 64 (.agg zeroRf) 35 56 (by rfl) Tryz.underlying47 infoRf3 zeroRf_size (by decide) (.slice A21 rl.length c21) rl.length (flatRf rl) (some ⟨g8, 0, none⟩) 1 1 Cl (by rfl) (by rfl) hst8.refs hrv HCL.out HC1.out hst8.a.below.size (by omega) (by omega) ?_
                          intro v9 w9 ho9 hg9
                          have hst9 := hst8.grow (rl' := rl ++ [(sumN ch, ch.length, G3.length, cur3.length)]) (by rw [List.length_append, List.length_singleton, flatRf_snoc, HC.out]; exact ho9) hg9
                          have HST9 := Lib.hid hst9
                          clear hst8 ho9 hg9 hrv hst9 HST7 hT7
                          go_simp
                          refine hK.out _ _ ?_
                          clear hK K
                          refine WL.late (i := 17) (by kernel_rfl) rfl (by kernel_rfl) (fun K hK => ?_)
                          go_simp
                          refine hK.out _ _ ?_
                          clear hK K
                          refine WL.done (by kernel_rfl) ?_ _
                          go_wp2_with fail
                          refine ⟨⟨i + 1, G3, some pb, cur3 ++ [ch], by omega, by first | rfl | go_num, ?_, fun e => (by cases e), fun pb' _ => by simp, ?_⟩, by simp [intOf]; omega⟩
                          · have := HPI3.out.add hlt (by rw [HCH.out]; exact ⟨h1, h2, H3.out⟩) (by rw [HCH.out]; exact HROOM3.out)
                            rw [HCH.out] at this
                            exact this
                          · have e : refsOf 0 G3 ++ slRefs G3.length 0 (cur3 ++ [ch]) = rl ++ [(sumN ch, ch.length, G3.length, cur3.length)] := by rw [slRefs_snoc, Nat.zero_add, ← List.append_assoc, ← HRL3.out]
                            rw [e]
                            exact HST9.out
            · as_aux_lemma =>
                have dlt : decide ((i : Int) < (cs.length : Int)) = false := decide_eq_false (by omega)
                have dlt' : decide (i < cs.length) = false := decide_eq_false hlt
                obtain ⟨rl, hrl⟩ : ∃ rl, refsOf 0 G ++ slRefs G.length 0 cur = rl := ⟨_, rfl⟩
                rw [hrl] at HST
                have HRL := Lib.hid hrl
                clear hrl
                obtain ⟨A21, c21, e21, hc21, _, _⟩ := RV.ofOwn HST.out.refs
                subst e21
                have hPI : PackI cs cs.length G cur := by
                  have e : i = cs.length := by omega
                  have := HPI.out
                  rwa [e] at this
                have HPIE := Lib.hid hPI
                clear hPI HPI
                go_upto_region 28 with (fail)
                go_cut [157] from 146 to 157 (fun s157 wx => s157 = .bool false ∧ L1E cs w4 gsh gp db gs mb (.slice A21 rl.length c21) rl wx)
                case first =>
                  as_aux_lemma =>
                    cases kv with
                    | none =>
                      have hkc' : wr.cell? ⟨gp + 1, 0, none⟩ = some (.pointer none) := hkc
                      obtain ⟨rfl, rfl⟩ := HNO.out rfl
                      have hfin := HPIE.out.fin0 (by omega) (by rw [HFLAT.out]; exact hq0)
                      have HFL := Lib.hid (FlushG_c wr HST.out.a hfin HST.out.refs)
                      have HFIN := Lib.hid hfin
                      clear hkc hfin
                      go_wp2_with fail
                      refine HFL.out.mono ?_
                      rintro e w2 ⟨rfl, sb', hst2⟩
                      have HS2 := Lib.hid hst2
                      clear hst2
                      go_wp2_with fail
                      go_meet
                      exact ⟨rfl, [], sb', HFIN.out, HRL.out.symm, HS2.out⟩
                    | some pb =>
                      have hkc' : wr.cell? ⟨gp + 1, 0, none⟩ = some (.pointer (some ⟨pb, 0, none⟩)) := hkc
                      have hfin := HPIE.out.fin (HYES.out pb rfl) (by omega) (by rw [HFLAT.out]; exact hq0)
                      have few := HPIE.out.few (by omega) (by rw [HFLAT.out]; exact hq0)
                      have HSL := Lib.hid (SealG_c wr HST.out.a HST.out.k (HST.out.pk pb rfl).1 HPIE.out.ch (HYES.out pb rfl) HPIE.out.sz few HST.out.refs)
                      have HFIN := Lib.hid hfin
                      clear hkc hfin few
                      go_wp2_with fail
                      refine HSL.out.mono ?_
                      rintro e w2 ⟨rfl, ha2, _, hr2⟩
                      have HFL := Lib.hid (FlushG_c w2 ha2 HFIN.out hr2)
                      clear ha2 hr2
                      go_wp2_with fail
                      refine HFL.out.mono ?_
                      rintro e w3 ⟨rfl, sb', hst3⟩
                      have HS3 := Lib.hid hst3
                      clear hst3
                      go_wp2_with fail
                      go_meet
                      exact ⟨rfl, G ++ [cur], sb', HFIN.out, by rw [← HRL.out, refsOf_snoc, Nat.zero_add], HS3.out⟩
                case rest =>
                  obtain ⟨rfl, G5, sb5, hfin5, hrl5, hst5⟩ := hcut
                  obtain ⟨X, hX⟩ : ∃ X, X = wc := ⟨_, rfl⟩
                  subst hX
                  have hk11 := (hst5.below.block _ hgc5).trans HK4.out
                  have x0c : X.cell? ⟨gc + 1, 0, none⟩ = some (.slice x0 xn xc) := by rw [cell_of_row _ _ _ _ _ _ hk11]; rfl
                  have x1c : X.cell? ⟨gc + 1, 1, none⟩ = some (.int .i64 x1) := by rw [cell_of_row _ _ _ _ _ _ hk11]; rfl
                  have x2c : X.cell? ⟨gc + 1, 2, none⟩ = some (.int .i64 x2) := by rw [cell_of_row _ _ _ _ _ _ hk11]; rfl
                  have HCRA := Lib.hid (CrashG_c x0 xn xc x1 x2 X hst5)
                  have HFIN5 := Lib.hid hfin5
                  have HRL5 := Lib.hid hrl5
                  clear hk11 hst5 hfin5 hrl5 hkc HST HRL HPIE HNO HYES HBR dlt dlt'
                  go_wp2_with fail
                  refine HCRA.out.mono ?_
                  rintro e w6 ⟨⟨v6, rfl⟩, hst6⟩
                  have HST6 := Lib.hid hst6
                  have hz6' := hst6.below.size
                  clear x0c x1c x2c hst6 HCRA
                  go_wp2_with fail
                  refine (eNew_c 0 4096 w6 (by decide) (by decide)).mono ?_
                  rintro e w7 ⟨er2, rfl, l7', he7, hb7⟩
                  have he7 : EM w7 w6.heap.size er2 0 4096 [(offOf (G5.take 0), 4096 - offOf (G5.take 0))] := he7
                  have hz7' := hb7.size
                  have HE7 := Lib.hid (he7.lower hz6')
                  have HST7 := Lib.hid (HST6.out.next hb7)
                  clear he7 hb7 HST6
                  go_wp2_with fail
                  refine (BNew_c db er2 w7).mono ?_
                  rintro e w8 ⟨s2, rb2, rfl, hs8, l8', l9', hb8⟩
                  have ne2 : rb2 ≠ mb := by have := HST7.out.disk.lt.2.2; omega
                  have hst8 := HST7.out.next hb8
                  have HCL := Lib.hid (hst8.claims (HE7.out.below hb8) hs8 ne2 (by omega))
                  obtain ⟨u8, hu8⟩ := hst8.sh
                  have k8 := cell_of_one hu8
                  have f8 : w8.frozen? ⟨gsh, 0, none⟩ = false := frozen_of_row _ _ _ _ _ hu8
                  have HBY := Lib.hid hst8.bytes
                  clear hs8 hb8 ne2 hst8 hu8 HST7 HE7
                  obtain ⟨W9, hW9⟩ : ∃ W9, w8.setCell ⟨gsh, 0, none⟩ (.pointer (some ⟨s2, 0, none⟩)) = W9 := ⟨_, rfl⟩
                  rw [hW9] at HCL
                  have HW9 := Lib.hid hW9
                  clear hW9
                  go_wp2_with (rw [HW9.out])
                  clear k8 f8
                  go_loopw [28] (fun vi W => L2R w4 gsh gp s2 db gs mb er2 rb2 sb5 G5 (.slice A21 rl.length c21) rl vi W) (fun vi _ => G5.length - (intOf vi).toNat)
                  case atStart => exact ⟨0, Nat.zero_le _, rfl, HCL.out⟩
                  case round =>
                    as_aux_lemma =>
                      obtain ⟨j, hj, rfl, hst⟩ := hrel
                      obtain ⟨AP, cP, kP, hcP, hrP⟩ := hst.pl.cells
                      have hsc := cell_of_one hst.sh
                      have hG10 := HFIN5.out.few.1
                      by_cases hlj : j < G5.length
                      · have dj : decide ((j : Int) < (G5.length : Int)) = true := decide_eq_true (by omega)
                        have dj' : decide (j < G5.length) = true := decide_eq_true hlj
                        obtain ⟨gq, oq, eAP, hrg⟩ := hrP.place j (by rw [plFrom_len]; exact hlj)
                        rw [plFrom_get 0 0 G5 j hlj] at hrg
                        rw [plFrom_len] at kP hcP
                        subst eAP
                        have hrg : wr.rangeAt gq (oq + j * 3) [.int .i64 (j : Nat), .int .i64 (offOf (G5.take j) : Nat), .int .i64 (secsOf G5[j] : Nat)] := by simpa [pcCells] using hrg
                        have HCM := Lib.hid (ClaimG_c wr.drew (hst.next (Below.refl _ _).drew) HFIN5.out hlj)
                        obtain ⟨oj, hoj⟩ : ∃ oj, offOf (G5.take j) = oj := ⟨_, rfl⟩
                        obtain ⟨nj, hnj⟩ : ∃ nj, secsOf G5[j] = nj := ⟨_, rfl⟩
                        rw [hoj, hnj] at HCM hrg
                        have HRG := Lib.hid hrg
                        clear hst hrP hrg hoj hnj
                        go_upto_region 36 with (fail)
                        refine wp_region_late [0, 1, 4] (fun w' => w'.cell? ⟨gsh, 0, none⟩ = some (.pointer (some ⟨s2, 0, none⟩)) ∧ w'.cell? ⟨gp, 0, none⟩ = some (.slice (some ⟨gq, oq, none⟩) G5.length cP) ∧ w'.rangeAt gq (oq + j * 3) [.int .i64 (j : Nat), .int .i64 (oj : Nat), .int .i64 (nj : Nat)]) (by kernel_rfl) ⟨hsc, kP, HRG.out⟩ (fun hT => ?_)
                        refine WL.take (i := 0) (v := ?_) rfl (by kernel_rfl) (by kernel_rfl) (by kernel_rfl) (by kernel_rfl) (fun _ _ _ h => h) (Or.inl ⟨by rfl, ?_⟩) (by assumption) ?_
                        rotate_left 1
                        · (intro w' hSw; (try (replace hSw := hSw (by decide); dsimp only at hSw)); go_split_ands; go_simp; try with_reducible rfl)
                        simp only [Act.put, List.getElem_toArray, List.getElem_cons_zero, List.getElem_cons_succ, List.setIfInBounds_toArray, List.set_cons_zero, List.set_cons_succ]
                        refine WL.take (i := 1) (v := ?_) rfl (by kernel_rfl) (by kernel_rfl) (by kernel_rfl) (by kernel_rfl) (fun _ _ _ h => h) (Or.inl ⟨by rfl, ?_⟩) (by assumption) ?_
                        rotate_left 1
                        · (intro w' hSw; (try (replace hSw := hSw (by decide); dsimp only at hSw)); go_split_ands; go_simp; try with_reducible rfl)
                        simp only [Act.put, List.getElem_toArray, List.getElem_cons_zero, List.getElem_cons_succ, List.setIfInBounds_toArray, List.set_cons_zero, List.set_cons_succ]
                        refine WL.take (i := 2) (v := ?_) rfl (by kernel_rfl) (by kernel_rfl) (by kernel_rfl) (by kernel_rfl) (fun _ _ _ h => h) (Or.inl ⟨by rfl, ?_⟩) (by assumption) ?_
                        rotate_left 1
                        · (intro w' hSw; (try (replace hSw := hSw (by decide); dsimp only at hSw)); go_split_ands; go_simp; try with_reducible rfl)
                        simp only [Act.put, List.getElem_toArray, List.getElem_cons_zero, List.getElem_cons_succ, List.setIfInBounds_toArray, List.set_cons_zero, List.set_cons_succ]
                        refine WL.take (i := 3) (v := ?_) rfl (by kernel_rfl) (by kernel_rfl) (by kernel_rfl) (by kernel_rfl) (fun _ _ _ h => h) (Or.inl ⟨by rfl, ?_⟩) (by assumption) ?_
                        rotate_left 1
                        · (intro w' hSw; (try (replace hSw := hSw (by decide); dsimp only at hSw)); go_split_ands; go_simp; try with_reducible rfl)
                        simp only [Act.put, List.getElem_toArray, List.getElem_cons_zero, List.getElem_cons_succ, List.setIfInBounds_toArray, List.set_cons_zero, List.set_cons_succ]
                        refine WL.take (i := 4) (v := .agg #[.int .i64 (j : Nat), .int .i64 (oj : Nat), .int .i64 (nj : Nat)]) rfl (by kernel_rfl) (by kernel_rfl) (by kernel_rfl) (by kernel_rfl) (fun _ _ _ h => h) (yieldsIf_load_at (by rfl) 53 (.tmp 180) (by rfl) ⟨gq, oq + j * 3, none⟩ (by rfl) [.int .i64 (j : Nat), .int .i64 (oj : Nat), .int .i64 (nj : Nat)] _ (fun w' h k v hv => by rw [Addr.add_lit]; exact (h (by decide)).2.2 k v hv) Tryz.underlying53 (by rfl) (by kernel_rfl)) hT ?_
                        simp only [Act.put, List.getElem_toArray, List.getElem_cons_zero, List.getElem_cons_succ, List.setIfInBounds_toArray, List.set_cons_zero, List.set_cons_succ]
                        refine WL.late (i := 5) (by kernel_rfl) rfl (by kernel_rfl) (fun K hK => ?_)
                        go_simp
                        refine HCM.out.mono ?_
                        rintro e w2 ⟨rfl, hst2⟩
                        have HS2 := Lib.hid hst2
                        clear hst2 hT HRG hsc kP
                        go_simp
                        refine hK.out _ _ ?_
                        clear hK K
                        refine WL.late (i := 6) (by kernel_rfl) rfl (by kernel_rfl) (fun K hK => ?_)
                        go_simp
                        refine hK.out _ _ ?_
                        clear hK K
                        refine WL.done (by kernel_rfl) ?_ _
                        go_wp2_with fail
                        exact ⟨⟨j + 1, by omega, by first | rfl | go_num, HS2.out⟩, by simp [intOf]; omega⟩
                      · as_aux_lemma =>
                          have dj : decide ((j : Int) < (G5.length : Int)) = false := decide_eq_false (by omega)
                          have dj' : decide (j < G5.length) = false := decide_eq_false hlj
                          rw [plFrom_len] at kP
                          have hst' : StC w4 wr gsh gp s2 db gs mb er2 rb2 sb5 G5 G5.length (.slice A21 rl.length c21) rl := by
                            have hJ : j = G5.length := by omega
                            rw [hJ] at hst
                            exact hst
                          obtain ⟨A22, c22, e22, hc22, hr22, _⟩ := RV.ofOwn hst'.refs
                          cases e22
                          have hok : ∀ r ∈ rl, RfOk r := by rw [HRL5.out]; exact refs_ok HFIN5.out
                          have hln : rl.length = cs.length := by rw [HRL5.out]; exact refs_len HFIN5.out
                          have hlens : ∀ t (h : t < rl.length), rl[t].2.1 = (cs.getD t []).length := by rw [HRL5.out]; exact refs_lens HFIN5.out
                          have hup : upto rl rl.length = q.length := by rw [upto_cat rl cs hln.symm hlens _ (Nat.le_refl _), List.take_of_length_le (by omega), HFLAT.out]
                          have HRW := Lib.hid (RNew_c A21 c21 rl wr hok (by omega) hc22 hr22)
                          have HST := Lib.hid hst'
                          have HOK := Lib.hid hok
                          have HLENS := Lib.hid hlens
                          have HUP := Lib.hid hup
                          have HLN := Lib.hid hln
                          have hrl256 : rl.length ≤ 256 := by omega
                          clear hst hst' hr22 hrP hok hlens hup hln hsc HCL
                          go_wp2_with fail
                          refine HRW.out.mono ?_
                          rintro e wA ⟨bR, rfl, hrc, lR, hbA⟩
                          have hrs := RSize_c bR rl wA hrc (by omega)
                          rw [HUP.out] at hrs
                          have HRS := Lib.hid hrs
                          have HRC := Lib.hid hrc
                          have HSTA := Lib.hid (HST.out.next hbA)
                          have HBA := Lib.hid hbA
                          clear hrs hrc hbA HST HRW
                          go_wp2_with fail
                          refine HRS.out.mono ?_
                          rintro e wB ⟨rfl, hbB⟩
                          have HRC2 := Lib.hid (HRC.out.below hbB)
                          have HSTB := Lib.hid (HSTA.out.next hbB)
                          clear hbB HRC HSTA HRS HBA
                          obtain ⟨a, ha⟩ : ∃ a, from0 % (q.length + 1) = a := ⟨_, rfl⟩
                          have ha1 : a ≤ q.length := by have := Nat.mod_lt from0 (show 0 < q.length + 1 by omega); omega
                          have hai : (from0 : Int) % ((q.length : Int) + 1) = (a : Int) := by rw [← ha]; simp
                          have hat : (from0 : Int).tmod ((q.length : Int) + 1) = (a : Int) := by rw [Int.tmod_eq_emod_of_nonneg (by omega)]; exact hai
                          obtain ⟨m, hm'⟩ : ∃ m, size0 % (q.length - a + 1) = m := ⟨_, rfl⟩
                          have hm1 : a + m ≤ q.length := by have := Nat.mod_lt size0 (show 0 < q.length - a + 1 by omega); omega
                          have hmi : (size0 : Int) % ((q.length : Int) - a + 1) = (m : Int) := by
                            rw [← hm', show (q.length : Int) - a + 1 = ((q.length - a + 1 : Nat) : Int) by omega]; simp
                          have hmt : (size0 : Int).tmod ((q.length : Int) - a + 1) = (m : Int) := by rw [Int.tmod_eq_emod_of_nonneg (by omega)]; exact hmi
                          clear ha hm'
                          have HCT := Lib.hid (Cut_c bR rl a m wB HRC2.out (by omega) HOK.out (by rw [HUP.out]; exact ha1) (by omega))
                          go_wp2_with fail
                          refine HCT.out.mono ?_
                          rintro e wC ⟨vl, xs, rfl, hpc, hol, hbC⟩
                          obtain ⟨Al, cl, evl, hcl, hrl', _⟩ := RV.ofOwn hol
                          subst evl
                          obtain ⟨hcat, hin⟩ := pieces_cat rl cs HLN.out.symm HLENS.out a m (by rw [HFLAT.out]; exact hm1) xs hpc
                          rw [HFLAT.out] at hcat
                          have HSTC := Lib.hid (HSTB.out.next hbC)
                          have HXS := Lib.hid hrl'
                          have HCAT := Lib.hid hcat
                          have HIN := Lib.hid hin
                          have hxl := hrl'.1
                          clear hol hrl' hcat hin hpc hbC hai hat hmi hmt HCT HRC2 HSTB
                          go_wp2_with fail
                          go_loopw [35, 36] (fun vg vk W => L3R cs wC xs vg vk W) (fun _ vk _ => xs.length - (intOf vk).toNat)
                          case atStart => exact ⟨0, Nat.zero_le _, rfl, own_nilV _ _ _ _, Below.refl _ _⟩
                          case round =>
                            as_aux_lemma =>
                              obtain ⟨k, hk, rfl, hog, hbW⟩ := hrel
                              obtain ⟨Ag, cg, evg, hcg, _, _⟩ := RV.ofOwnN hog
                              subst evg
                              have hst := HSTC.out.next hbW
                              have hsc := cell_of_one hst.sh
                              obtain ⟨got, hgot⟩ : ∃ got, ((xs.take k).map (pieceB cs)).flatten = got := ⟨_, rfl⟩
                              have hgl : got.length ≤ 4000 := by
                                rw [← hgot]
                                refine Nat.le_trans (pieces_le cs xs k) ?_
                                rw [HCAT.out, List.length_take, List.length_drop]
                                omega
                              rw [hgot] at hog ⊢
                              have HGOT := Lib.hid hgot
                              have HOG := Lib.hid hog
                              have HBW := Lib.hid hbW
                              have HST := Lib.hid hst
                              have hzW := hbW.size
                              clear hgot hog hbW hst
                              by_cases hlk : k < xs.length
                              · have dk : decide ((k : Int) < (xs.length : Int)) = true := decide_eq_true (by omega)
                                have dk' : decide (k < xs.length) = true := decide_eq_true hlk
                                obtain ⟨g2, o2, eAl, hrg⟩ := (HXS.out.below HBW.out).place k hlk
                                subst eAl
                                have hpin := HIN.out xs[k] (List.getElem_mem hlk)
                                obtain ⟨y, hy⟩ : ∃ y, xs[k] = y := ⟨_, rfl⟩
                                rw [hy] at hrg hpin
                                obtain ⟨I, F0, N0⟩ := y
                                obtain ⟨hI, hFN⟩ := hpin
                                replace hI : I < rl.length := hI
                                replace hFN : F0 + N0 ≤ (cs.getD I []).length := hFN
                                have p0 : wr.cell? ⟨g2, o2 + k * 3, none⟩ = some (.int .i64 (I : Nat)) := hrg 0 _ rfl
                                have p1 : wr.cell? ⟨g2, o2 + k * 3 + 1, none⟩ = some (.int .i64 (F0 : Nat)) := hrg 1 _ rfl
                                have p2 : wr.cell? ⟨g2, o2 + k * 3 + 2, none⟩ = some (.int .i64 (N0 : Nat)) := hrg 2 _ rfl
                                obtain ⟨g3, o3, eA21, r1, r2⟩ := HST.out.ref HOK.out I hI
                                subst eA21
                                obtain ⟨jb, sl, hjb, hsl, hrf, hGs⟩ : ∃ j s, ∃ (hj : j < G5.length) (hs : s < G5[j].length), rl[I] = (sumN (cs.getD I []), (cs.getD I []).length, j, s) ∧ G5[j][s] = cs.getD I [] := by
                                  have h1 : I < (refsOf 0 G5).length := by rw [← HRL5.out]; exact hI
                                  have h2 : rl[I] = (refsOf 0 G5)[I] := by congr 1 <;> exact HRL5.out
                                  rw [h2]
                                  exact refs_at HFIN5.out I h1
                                rw [hrf] at r1 r2
                                replace r1 : wr.cell? ⟨g3, o3 + I * 35 + 33, none⟩ = some (.int .i64 (jb : Nat)) := r1
                                replace r2 : wr.cell? ⟨g3, o3 + I * 35 + 34, none⟩ = some (.int .i64 (sl : Nat)) := r2
                                have hpb : pieceB cs (I, F0, N0) = ((cs.getD I []).drop F0).take N0 := rfl
                                obtain ⟨ch, hch⟩ : ∃ ch, cs.getD I [] = ch := ⟨_, rfl⟩
                                rw [hch] at hGs hFN hpb
                                have HCK := Lib.hid (ChunkG_c wr.drew (HST.out.next (Below.refl _ _).drew) HFIN5.out HBY.out jb sl hjb hsl ch hGs)
                                have HPB := Lib.hid hpb
                                have HY := Lib.hid hy
                                clear hrg hy hpb hch hrf hGs hsl hjb
                                obtain ⟨i0, hi0, hz0, hz1, _⟩ := info_parts info_u8
                                go_upto_region 48 with (fail)
                                refine wp_region_late [0, 6, 9, 15, 18] (fun w' => w'.cell? ⟨gsh, 0, none⟩ = some (.pointer (some ⟨s2, 0, none⟩)) ∧ w'.cell? ⟨g2, o2 + k * 3, none⟩ = some (.int .i64 (I : Nat)) ∧ w'.cell? ⟨g3, o3 + I * 35 + 33, none⟩ = some (.int .i64 (jb : Nat)) ∧ w'.cell? ⟨g3, o3 + I * 35 + 34, none⟩ = some (.int .i64 (sl : Nat))) (by kernel_rfl) ⟨hsc, p0, r1, r2⟩ (fun hT => ?_)
                                refine WL.take (i := 0) (v := ?_) rfl (by kernel_rfl) (by kernel_rfl) (by kernel_rfl) (by kernel_rfl) (fun _ _ _ h => h) (Or.inl ⟨by rfl, ?_⟩) (by assumption) ?_
                                rotate_left 1
                                · (intro w' hSw; (try (replace hSw := hSw (by decide); dsimp only at hSw)); go_split_ands; go_simp; try with_reducible rfl)
                                simp only [Act.put, List.getElem_toArray, List.getElem_cons_zero, List.getElem_cons_succ, List.setIfInBounds_toArray, List.set_cons_zero, List.set_cons_succ]
                                refine WL.take (i := 1) (v := ?_) rfl (by kernel_rfl) (by kernel_rfl) (by kernel_rfl) (by kernel_rfl) (fun _ _ _ h => h) (Or.inl ⟨by rfl, ?_⟩) (by assumption) ?_
                                rotate_left 1
                                · (intro w' hSw; (try (replace hSw := hSw (by decide); dsimp only at hSw)); go_split_ands; go_simp; try with_reducible rfl)
                                simp only [Act.put, List.getElem_toArray, List.getElem_cons_zero, List.getElem_cons_succ, List.setIfInBounds_toArray, List.set_cons_zero, List.set_cons_succ]
                                refine WL.take (i := 2) (v := ?_) rfl (by kernel_rfl) (by kernel_rfl) (by kernel_rfl) (by kernel_rfl) (fun _ _ _ h => h) (Or.inl ⟨by rfl, ?_⟩) (by assumption) ?_
                                rotate_left 1
                                · (intro w' hSw; (try (replace hSw := hSw (by decide); dsimp only at hSw)); go_split_ands; go_simp; try with_reducible rfl)
                                simp only [Act.put, List.getElem_toArray, List.getElem_cons_zero, List.getElem_cons_succ, List.setIfInBounds_toArray, List.set_cons_zero, List.set_cons_succ]
                                refine WL.take (i := 3) (v := ?_) rfl (by kernel_rfl) (by kernel_rfl) (by kernel_rfl) (by kernel_rfl) (fun _ _ _ h => h) (Or.inl ⟨by rfl, ?_⟩) (by assumption) ?_
                                rotate_left 1
                                · (intro w' hSw; (try (replace hSw := hSw (by decide); dsimp only at hSw)); go_split_ands; go_simp; try with_reducible rfl)
                                simp only [Act.put, List.getElem_toArray, List.getElem_cons_zero, List.getElem_cons_succ, List.setIfInBounds_toArray, List.set_cons_zero, List.set_cons_succ]
                                refine WL.take (i := 4) (v := ?_) rfl (by kernel_rfl) (by kernel_rfl) (by kernel_rfl) (by kernel_rfl) (fun _ _ _ h => h) (Or.inl ⟨by rfl, ?_⟩) (by assumption) ?_
                                rotate_left 1
                                · (intro w' hSw; (try (replace hSw := hSw (by decide); dsimp only at hSw)); go_split_ands; go_simp; try with_reducible rfl)
                                simp only [Act.put, List.getElem_toArray, List.getElem_cons_zero, List.getElem_cons_succ, List.setIfInBounds_toArray, List.set_cons_zero, List.set_cons_succ]
                                refine WL.take (i := 5) (v := ?_) rfl (by kernel_rfl) (by kernel_rfl) (by kernel_rfl) (by kernel_rfl) (fun _ _ _ h => h) (Or.inl ⟨by rfl, ?_⟩) (by assumption) ?_
                                rotate_left 1
                                · (intro w' hSw; (try (replace hSw := hSw (by decide); dsimp only at hSw)); go_split_ands; go_simp; try with_reducible rfl)
                                simp only [Act.put, List.getElem_toArray, List.getElem_cons_zero, List.getElem_cons_succ, List.setIfInBounds_toArray, List.set_cons_zero, List.set_cons_succ]
                                refine WL.take (i := 6) (v := ?_) rfl (by kernel_rfl) (by kernel_rfl) (by kernel_rfl) (by kernel_rfl) (fun _ _ _ h => h) (Or.inl ⟨by rfl, ?_⟩) (by assumption) ?_
                                rotate_left 1
                                · (intro w' hSw; (try (replace hSw := hSw (by decide); dsimp only at hSw)); go_split_ands; go_simp; try with_reducible rfl)
                                simp only [Act.put, List.getElem_toArray, List.getElem_cons_zero, List.getElem_cons_succ, List.setIfInBounds_toArray, List.set_cons_zero, List.set_cons_succ]
                                refine WL.take (i := 7) (v := ?_) rfl (by kernel_rfl) (by kernel_rfl) (by kernel_rfl) (by kernel_rfl) (fun _ _ _ h => h) (Or.inl ⟨by rfl, ?_⟩) (by assumption) ?_
                                rotate_left 1
                                · (intro w' hSw; (try (replace hSw := hSw (by decide); dsimp only at hSw)); go_split_ands; go_simp; try with_reducible rfl)
                                simp only [Act.put, List.getElem_toArray, List.getElem_cons_zero, List.getElem_cons_succ, List.setIfInBounds_toArray, List.set_cons_zero, List.set_cons_succ]
                                refine WL.take (i := 8) (v := ?_) rfl (by kernel_rfl) (by kernel_rfl) (by kernel_rfl) (by kernel_rfl) (fun _ _ _ h => h) (Or.inl ⟨by rfl, ?_⟩) (by assumption) ?_
                                rotate_left 1
                                · (intro w' hSw; (try (replace hSw := hSw (by decide); dsimp only at hSw)); go_split_ands; go_simp; try with_reducible rfl)
                                simp only [Act.put, List.getElem_toArray, List.getElem_cons_zero, List.getElem_cons_succ, List.setIfInBounds_toArray, List.set_cons_zero, List.set_cons_succ]
                                refine WL.take (i := 9) (v := ?_) rfl (by kernel_rfl) (by kernel_rfl) (by kernel_rfl) (by kernel_rfl) (fun _ _ _ h => h) (Or.inl ⟨by rfl, ?_⟩) (by assumption) ?_
                                rotate_left 1
                                · (intro w' hSw; (try (replace hSw := hSw (by decide); dsimp only at hSw)); go_split_ands; go_simp; try with_reducible rfl)
                                simp only [Act.put, List.getElem_toArray, List.getElem_cons_zero, List.getElem_cons_succ, List.setIfInBounds_toArray, List.set_cons_zero, List.set_cons_succ]
                                refine WL.take (i := 10) (v := ?_) rfl (by kernel_rfl) (by kernel_rfl) (by kernel_rfl) (by kernel_rfl) (fun _ _ _ h => h) (Or.inl ⟨by rfl, ?_⟩) (by assumption) ?_
                                rotate_left 1
                                · (intro w' hSw; (try (replace hSw := hSw (by decide); dsimp only at hSw)); go_split_ands; go_simp; try with_reducible rfl)
                                simp only [Act.put, List.getElem_toArray, List.getElem_cons_zero, List.getElem_cons_succ, List.setIfInBounds_toArray, List.set_cons_zero, List.set_cons_succ]
                                refine WL.take (i := 11) (v := ?_) rfl (by kernel_rfl) (by kernel_rfl) (by kernel_rfl) (by kernel_rfl) (fun _ _ _ h => h) (Or.inl ⟨by rfl, ?_⟩) (by assumption) ?_
                                rotate_left 1
                                · (intro w' hSw; (try (replace hSw := hSw (by decide); dsimp only at hSw)); go_split_ands; go_simp; try with_reducible rfl)
                                simp only [Act.put, List.getElem_toArray, List.getElem_cons_zero, List.getElem_cons_succ, List.setIfInBounds_toArray, List.set_cons_zero, List.set_cons_succ]
                                refine WL.take (i := 12) (v := ?_) rfl (by kernel_rfl) (by kernel_rfl) (by kernel_rfl) (by kernel_rfl) (fun _ _ _ h => h) (Or.inl ⟨by rfl, ?_⟩) (by assumption) ?_
                                rotate_left 1
                                · (intro w' hSw; (try (replace hSw := hSw (by decide); dsimp only at hSw)); go_split_ands; go_simp; try with_reducible rfl)
                                simp only [Act.put, List.getElem_toArray, List.getElem_cons_zero, List.getElem_cons_succ, List.setIfInBounds_toArray, List.set_cons_zero, List.set_cons_succ]
                                refine WL.take (i := 13) (v := ?_) rfl (by kernel_rfl) (by kernel_rfl) (by kernel_rfl) (by kernel_rfl) (fun _ _ _ h => h) (Or.inl ⟨by rfl, ?_⟩) (by assumption) ?_
                                rotate_left 1
                                · (intro w' hSw; (try (replace hSw := hSw (by decide); dsimp only at hSw)); go_split_ands; go_simp; try with_reducible rfl)
                                simp only [Act.put, List.getElem_toArray, List.getElem_cons_zero, List.getElem_cons_succ, List.setIfInBounds_toArray, List.set_cons_zero, List.set_cons_succ]
                                refine WL.take (i := 14) (v := ?_) rfl (by kernel_rfl) (by kernel_rfl) (by kernel_rfl) (by kernel_rfl) (fun _ _ _ h => h) (Or.inl ⟨by rfl, ?_⟩) (by assumption) ?_
                                rotate_left 1
                                · (intro w' hSw; (try (replace hSw := hSw (by decide); dsimp only at hSw)); go_split_ands; go_simp; try with_reducible rfl)
                                simp only [Act.put, List.getElem_toArray, List.getElem_cons_zero, List.getElem_cons_succ, List.setIfInBounds_toArray, List.set_cons_zero, List.set_cons_succ]
                                refine WL.take (i := 15) (v := ?_) rfl (by kernel_rfl) (by kernel_rfl) (by kernel_rfl) (by kernel_rfl) (fun _ _ _ h => h) (Or.inl ⟨by rfl, ?_⟩) (by assumption) ?_
                                rotate_left 1
                                · (intro w' hSw; (try (replace hSw := hSw (by decide); dsimp only at hSw)); go_split_ands; go_simp; try with_reducible rfl)
                                simp only [Act.put, List.getElem_toArray, List.getElem_cons_zero, List.getElem_cons_succ, List.setIfInBounds_toArray, List.set_cons_zero, List.set_cons_succ]
                                refine WL.take (i := 16) (v := ?_) rfl (by kernel_rfl) (by kernel_rfl) (by kernel_rfl) (by kernel_rfl) (fun _ _ _ h => h) (Or.inl ⟨by rfl, ?_⟩) (by assumption) ?_
                                rotate_left 1
                                · (intro w' hSw; (try (replace hSw := hSw (by decide); dsimp only at hSw)); go_split_ands; go_simp; try with_reducible rfl)
                                simp only [Act.put, List.getElem_toArray, List.getElem_cons_zero, List.getElem_cons_succ, List.setIfInBounds_toArray, List.set_cons_zero, List.set_cons_succ]
                                refine WL.take (i := 17) (v := ?_) rfl (by kernel_rfl) (by kernel_rfl) (by kernel_rfl) (by kernel_rfl) (fun _ _ _ h => h) (Or.inl ⟨by rfl, ?_⟩) (by assumption) ?_
                                rotate_left 1
                                · (intro w' hSw; (try (replace hSw := hSw (by decide); dsimp only at hSw)); go_split_ands; go_simp; try with_reducible rfl)
                                simp only [Act.put, List.getElem_toArray, List.getElem_cons_zero, List.getElem_cons_succ, List.setIfInBounds_toArray, List.set_cons_zero, List.set_cons_succ]
                                refine WL.take (i := 18) (v := ?_) rfl (by kernel_rfl) (by kernel_rfl) (by kernel_rfl) (by kernel_rfl) (fun _ _ _ h => h) (Or.inl ⟨by rfl, ?_⟩) (by assumption) ?_
                                rotate_left 1
                                · (intro w' hSw; (try (replace hSw := hSw (by decide); dsimp only at hSw)); go_split_ands; go_simp; try with_reducible rfl)
                                simp only [Act.put, List.getElem_toArray, List.getElem_cons_zero, List.getElem_cons_succ, List.setIfInBounds_toArray, List.set_cons_zero, List.set_cons_succ]
                                refine WL.late (i := 19) (by kernel_rfl) rfl (by kernel_rfl) (fun K hK => ?_)
                                go_simp
                                refine HCK.out.mono ?_
                                rintro e w2 ⟨AB, cB, rfl, hcB, hrB, hb2⟩
                                have hb2' : Below wr.heap.size wr w2 := (Below.refl _ wr).drew.trans hb2
                                have hT2 : w2.cell? ⟨gsh, 0, none⟩ = some (.pointer (some ⟨s2, 0, none⟩)) ∧ w2.cell? ⟨g2, o2 + k * 3, none⟩ = some (.int .i64 (I : Nat)) ∧ w2.cell? ⟨g3, o3 + I * 35 + 33, none⟩ = some (.int .i64 (jb : Nat)) ∧ w2.cell? ⟨g3, o3 + I * 35 + 34, none⟩ = some (.int .i64 (sl : Nat)) :=
                                  ⟨(hb2'.cell (block_lt_of_cell hsc)).trans hsc, (hb2'.cell (block_lt_of_cell p0)).trans p0, (hb2'.cell (block_lt_of_cell r1)).trans r1, (hb2'.cell (block_lt_of_cell r2)).trans r2⟩
                                have q1 := (hb2'.cell (block_lt_of_cell p1)).trans p1
                                have q2 := (hb2'.cell (block_lt_of_cell p2)).trans p2
                                have HB2 := Lib.hid hb2'
                                have hmB := hrB.max
                                have HRB := Lib.hid hrB
                                clear hb2 hb2' hrB HCK hsc p0 p1 p2 r1 r2 hT
                                go_simp
                                refine hK.out _ _ ?_
                                clear hK K
                                refine WL.take (i := 20) (v := ?_) rfl (by kernel_rfl) (by kernel_rfl) (by kernel_rfl) (by kernel_rfl) (fun _ _ _ h => h) (Or.inl ⟨by rfl, ?_⟩) (by assumption) ?_
                                rotate_left 1
                                · (intro w' hSw; (try (replace hSw := hSw (by decide); dsimp only at hSw)); go_split_ands; go_simp; try with_reducible rfl)
                                simp only [Act.put, List.getElem_toArray, List.getElem_cons_zero, List.getElem_cons_succ, List.setIfInBounds_toArray, List.set_cons_zero, List.set_cons_succ]
                                refine WL.take (i := 21) (v := ?_) rfl (by kernel_rfl) (by kernel_rfl) (by kernel_rfl) (by kernel_rfl) (fun _ _ _ h => h) (Or.inl ⟨by rfl, ?_⟩) (by assumption) ?_
                                rotate_left 1
                                · (intro w' hSw; (try (replace hSw := hSw (by decide); dsimp only at hSw)); go_split_ands; go_simp; try with_reducible rfl)
                                simp only [Act.put, List.getElem_toArray, List.getElem_cons_zero, List.getElem_cons_succ, List.setIfInBounds_toArray, List.set_cons_zero, List.set_cons_succ]
                                refine WL.take (i := 22) (v := ?_) rfl (by kernel_rfl) (by kernel_rfl) (by kernel_rfl) (by kernel_rfl) (fun _ _ _ h => h) (Or.inl ⟨by rfl, ?_⟩) (by assumption) ?_
                                rotate_left 1
                                · (intro w' hSw; (try (replace hSw := hSw (by decide); dsimp only at hSw)); go_split_ands; go_simp; try with_reducible rfl)
                                simp only [Act.put, List.getElem_toArray, List.getElem_cons_zero, List.getElem_cons_succ, List.setIfInBounds_toArray, List.set_cons_zero, List.set_cons_succ]
                                refine WL.take (i := 23) (v := ?_) rfl (by kernel_rfl) (by kernel_rfl) (by kernel_rfl) (by kernel_rfl) (fun _ _ _ h => h) (Or.inl ⟨by rfl, ?_⟩) (by assumption) ?_
                                rotate_left 1
                                · (intro w' hSw; (try (replace hSw := hSw (by decide); dsimp only at hSw)); go_split_ands; go_simp; try with_reducible rfl)
                                simp only [Act.put, List.getElem_toArray, List.getElem_cons_zero, List.getElem_cons_succ, List.setIfInBounds_toArray, List.set_cons_zero, List.set_cons_succ]
                                refine WL.take (i := 24) (v := ?_) rfl (by kernel_rfl) (by kernel_rfl) (by kernel_rfl) (by kernel_rfl) (fun _ _ _ h => h) (Or.inl ⟨by rfl, ?_⟩) (by assumption) ?_
                                rotate_left 1
                                · (intro w' hSw; (try (replace hSw := hSw (by decide); dsimp only at hSw)); go_split_ands; go_simp; try with_reducible rfl)
                                simp only [Act.put, List.getElem_toArray, List.getElem_cons_zero, List.getElem_cons_succ, List.setIfInBounds_toArray, List.set_cons_zero, List.set_cons_succ]
                                refine WL.done (by kernel_rfl) ?_ _
                                clear hT2
                                obtain ⟨hh, hhe⟩ : ∃ hh, F0 + N0 = hh := ⟨_, rfl⟩
                                have d1 : decide ((F0 : Int) < 0) = false := decide_eq_false (by omega)
                                have d2 : decide ((N0 : Int) < 0) = false := decide_eq_false (by omega)
                                have d3 : decide ((ch.length : Int) - (F0 : Int) < (N0 : Int)) = false := decide_eq_false (by omega)
                                obtain ⟨A', hx, hmid⟩ := RN.mid (P := Tryz.prog) 25 5 .u8 Tryz.underlying25 hi0 hz1 AB ch.length cB F0 hh (by omega) (by omega) hcB
                                have e1 : hh - F0 = N0 := by omega
                                rw [e1] at hx hmid
                                have HMID := Lib.hid hmid
                                have HX := Lib.hid hx
                                have hhI : (F0 : Int) + (N0 : Int) = (hh : Int) := by omega
                                have HHH := Lib.hid hhI
                                have hhe' : F0 + N0 ≤ hh ∧ hh ≤ F0 + N0 := by omega
                                clear hhI hhe e1 hmid hx
                                go_upto_region 49 with (fail)
                                go_quiet (fail)
                                generalize hWq : World.drewN w2 _ = wq
                                have hbq : Below w2.heap.size w2 wq := hWq ▸ pw_below_drewN (Below.refl _ _) _
                                have HBQ := Lib.hid (HB2.out.trans (hbq.mono HB2.out.size))
                                have HRQ := Lib.hid (HRB.out.below hbq)
                                have s1 := (hbq.cell (block_lt_of_cell q1)).trans q1
                                have s2' := (hbq.cell (block_lt_of_cell q2)).trans q2
                                clear hWq hbq q1 q2 d1 d2 d3 HB2 HRB
                                go_upto_region 51 with (fail)
                                have hhI : IntKind.i64.wrap ((F0 : Int) + (N0 : Int)) = (hh : Int) := by rw [IntKind.wrap_i64]; have := HHH.out; omega
                                have hx := HX.out
                                refine wp_region_late [6, 11, 16] (fun w' => w'.cell? ⟨g2, o2 + k * 3 + 1, none⟩ = some (.int .i64 (F0 : Nat)) ∧ w'.cell? ⟨g2, o2 + k * 3 + 2, none⟩ = some (.int .i64 (N0 : Nat))) (by kernel_rfl) ⟨s1, s2'⟩ (fun hT => ?_)
                                refine WL.take (i := 0) (v := ?_) rfl (by kernel_rfl) (by kernel_rfl) (by kernel_rfl) (by kernel_rfl) (fun _ _ _ h => h) (Or.inl ⟨by rfl, ?_⟩) (by assumption) ?_
                                rotate_left 1
                                · (intro w' hSw; (try (replace hSw := hSw (by decide); dsimp only at hSw)); go_split_ands; go_simp; try with_reducible rfl)
                                simp only [Act.put, List.getElem_toArray, List.getElem_cons_zero, List.getElem_cons_succ, List.setIfInBounds_toArray, List.set_cons_zero, List.set_cons_succ]
                                refine WL.take (i := 1) (v := ?_) rfl (by kernel_rfl) (by kernel_rfl) (by kernel_rfl) (by kernel_rfl) (fun _ _ _ h => h) (Or.inl ⟨by rfl, ?_⟩) (by assumption) ?_
                                rotate_left 1
                                · (intro w' hSw; (try (replace hSw := hSw (by decide); dsimp only at hSw)); go_split_ands; go_simp; try with_reducible rfl)
                                simp only [Act.put, List.getElem_toArray, List.getElem_cons_zero, List.getElem_cons_succ, List.setIfInBounds_toArray, List.set_cons_zero, List.set_cons_succ]
                                refine WL.take (i := 2) (v := ?_) rfl (by kernel_rfl) (by kernel_rfl) (by kernel_rfl) (by kernel_rfl) (fun _ _ _ h => h) (Or.inl ⟨by rfl, ?_⟩) (by assumption) ?_
                                rotate_left 1
                                · (intro w' hSw; (try (replace hSw := hSw (by decide); dsimp only at hSw)); go_split_ands; go_simp; try with_reducible rfl)
                                simp only [Act.put, List.getElem_toArray, List.getElem_cons_zero, List.getElem_cons_succ, List.setIfInBounds_toArray, List.set_cons_zero, List.set_cons_succ]
                                refine WL.take (i := 3) (v := ?_) rfl (by kernel_rfl) (by kernel_rfl) (by kernel_rfl) (by kernel_rfl) (fun _ _ _ h => h) (Or.inl ⟨by rfl, ?_⟩) (by assumption) ?_
                                rotate_left 1
                                · (intro w' hSw; (try (replace hSw := hSw (by decide); dsimp only at hSw)); go_split_ands; go_simp; try with_reducible rfl)
                                simp only [Act.put, List.getElem_toArray, List.getElem_cons_zero, List.getElem_cons_succ, List.setIfInBounds_toArray, List.set_cons_zero, List.set_cons_succ]
                                refine WL.take (i := 4) (v := ?_) rfl (by kernel_rfl) (by kernel_rfl) (by kernel_rfl) (by kernel_rfl) (fun _ _ _ h => h) (Or.inl ⟨by rfl, ?_⟩) (by assumption) ?_
                                rotate_left 1
                                · (intro w' hSw; (try (replace hSw := hSw (by decide); dsimp only at hSw)); go_split_ands; go_simp; try with_reducible rfl)
                                simp only [Act.put, List.getElem_toArray, List.getElem_cons_zero, List.getElem_cons_succ, List.setIfInBounds_toArray, List.set_cons_zero, List.set_cons_succ]
                                refine WL.take (i := 5) (v := ?_) rfl (by kernel_rfl) (by kernel_rfl) (by kernel_rfl) (by kernel_rfl) (fun _ _ _ h => h) (Or.inl ⟨by rfl, ?_⟩) (by assumption) ?_
                                rotate_left 1
                                · (intro w' hSw; (try (replace hSw := hSw (by decide); dsimp only at hSw)); go_split_ands; go_simp; try with_reducible rfl)
                                simp only [Act.put, List.getElem_toArray, List.getElem_cons_zero, List.getElem_cons_succ, List.setIfInBounds_toArray, List.set_cons_zero, List.set_cons_succ]
                                refine WL.take (i := 6) (v := ?_) rfl (by kernel_rfl) (by kernel_rfl) (by kernel_rfl) (by kernel_rfl) (fun _ _ _ h => h) (Or.inl ⟨by rfl, ?_⟩) (by assumption) ?_
                                rotate_left 1
                                · (intro w' hSw; (try (replace hSw := hSw (by decide); dsimp only at hSw)); go_split_ands; go_simp; try with_reducible rfl)
                                simp only [Act.put, List.getElem_toArray, List.getElem_cons_zero, List.getElem_cons_succ, List.setIfInBounds_toArray, List.set_cons_zero, List.set_cons_succ]
                                refine WL.take (i := 7) (v := ?_) rfl (by kernel_rfl) (by kernel_rfl) (by kernel_rfl) (by kernel_rfl) (fun _ _ _ h => h) (Or.inl ⟨by rfl, ?_⟩) (by assumption) ?_
                                rotate_left 1
                                · (intro w' hSw; (try (replace hSw := hSw (by decide); dsimp only at hSw)); go_split_ands; go_simp; try with_reducible rfl)
                                simp only [Act.put, List.getElem_toArray, List.getElem_cons_zero, List.getElem_cons_succ, List.setIfInBounds_toArray, List.set_cons_zero, List.set_cons_succ]
                                refine WL.take (i := 8) (v := ?_) rfl (by kernel_rfl) (by kernel_rfl) (by kernel_rfl) (by kernel_rfl) (fun _ _ _ h => h) (Or.inl ⟨by rfl, ?_⟩) (by assumption) ?_
                                rotate_left 1
                                · (intro w' hSw; (try (replace hSw := hSw (by decide); dsimp only at hSw)); go_split_ands; go_simp; try with_reducible rfl)
                                simp only [Act.put, List.getElem_toArray, List.getElem_cons_zero, List.getElem_cons_succ, List.setIfInBounds_toArray, List.set_cons_zero, List.set_cons_succ]
                                refine WL.take (i := 9) (v := ?_) rfl (by kernel_rfl) (by kernel_rfl) (by kernel_rfl) (by kernel_rfl) (fun _ _ _ h => h) (Or.inl ⟨by rfl, ?_⟩) (by assumption) ?_
                                rotate_left 1
                                · (intro w' hSw; (try (replace hSw := hSw (by decide); dsimp only at hSw)); go_split_ands; go_simp; try with_reducible rfl)
                                simp only [Act.put, List.getElem_toArray, List.getElem_cons_zero, List.getElem_cons_succ, List.setIfInBounds_toArray, List.set_cons_zero, List.set_cons_succ]
                                refine WL.take (i := 10) (v := ?_) rfl (by kernel_rfl) (by kernel_rfl) (by kernel_rfl) (by kernel_rfl) (fun _ _ _ h => h) (Or.inl ⟨by rfl, ?_⟩) (by assumption) ?_
                                rotate_left 1
                                · (intro w' hSw; (try (replace hSw := hSw (by decide); dsimp only at hSw)); go_split_ands; go_simp; try with_reducible rfl)
                                simp only [Act.put, List.getElem_toArray, List.getElem_cons_zero, List.getElem_cons_succ, List.setIfInBounds_toArray, List.set_cons_zero, List.set_cons_succ]
                                refine WL.take (i := 11) (v := ?_) rfl (by kernel_rfl) (by kernel_rfl) (by kernel_rfl) (by kernel_rfl) (fun _ _ _ h => h) (Or.inl ⟨by rfl, ?_⟩) (by assumption) ?_
                                rotate_left 1
                                · (intro w' hSw; (try (replace hSw := hSw (by decide); dsimp only at hSw)); go_split_ands; go_simp; try with_reducible rfl)
                                simp only [Act.put, List.getElem_toArray, List.getElem_cons_zero, List.getElem_cons_succ, List.setIfInBounds_toArray, List.set_cons_zero, List.set_cons_succ]
                                refine WL.take (i := 12) (v := ?_) rfl (by kernel_rfl) (by kernel_rfl) (by kernel_rfl) (by kernel_rfl) (fun _ _ _ h => h) (Or.inl ⟨by rfl, ?_⟩) (by assumption) ?_
                                rotate_left 1
                                · (intro w' hSw; (try (replace hSw := hSw (by decide); dsimp only at hSw)); go_split_ands; go_simp; try with_reducible rfl)
                                simp only [Act.put, List.getElem_toArray, List.getElem_cons_zero, List.getElem_cons_succ, List.setIfInBounds_toArray, List.set_cons_zero, List.set_cons_succ]
                                refine WL.take (i := 13) (v := ?_) rfl (by kernel_rfl) (by kernel_rfl) (by kernel_rfl) (by kernel_rfl) (fun _ _ _ h => h) (Or.inl ⟨by rfl, ?_⟩) (by assumption) ?_
                                rotate_left 1
                                · (intro w' hSw; (try (replace hSw := hSw (by decide); dsimp only at hSw)); go_split_ands; go_simp; try with_reducible rfl)
                                simp only [Act.put, List.getElem_toArray, List.getElem_cons_zero, List.getElem_cons_succ, List.setIfInBounds_toArray, List.set_cons_zero, List.set_cons_succ]
                                refine WL.take (i := 14) (v := ?_) rfl (by kernel_rfl) (by kernel_rfl) (by kernel_rfl) (by kernel_rfl) (fun _ _ _ h => h) (Or.inl ⟨by rfl, ?_⟩) (by assumption) ?_
                                rotate_left 1
                                · (intro w' hSw; (try (replace hSw := hSw (by decide); dsimp only at hSw)); go_split_ands; go_simp; try with_reducible rfl)
                                simp only [Act.put, List.getElem_toArray, List.getElem_cons_zero, List.getElem_cons_succ, List.setIfInBounds_toArray, List.set_cons_zero, List.set_cons_succ]
                                refine WL.take (i := 15) (v := ?_) rfl (by kernel_rfl) (by kernel_rfl) (by kernel_rfl) (by kernel_rfl) (fun _ _ _ h => h) (Or.inl ⟨by rfl, ?_⟩) (by assumption) ?_
                                rotate_left 1
                                · (intro w' hSw; (try (replace hSw := hSw (by decide); dsimp only at hSw)); go_split_ands; go_simp; try with_reducible rfl)
                                simp only [Act.put, List.getElem_toArray, List.getElem_cons_zero, List.getElem_cons_succ, List.setIfInBounds_toArray, List.set_cons_zero, List.set_cons_succ]
                                refine WL.take (i := 16) (v := ?_) rfl (by kernel_rfl) (by kernel_rfl) (by kernel_rfl) (by kernel_rfl) (fun _ _ _ h => h) (Or.inl ⟨by rfl, ?_⟩) (by assumption) ?_
                                rotate_left 1
                                · (intro w' hSw; (try (replace hSw := hSw (by decide); dsimp only at hSw)); go_split_ands; go_simp; try with_reducible rfl)
                                simp only [Act.put, List.getElem_toArray, List.getElem_cons_zero, List.getElem_cons_succ, List.setIfInBounds_toArray, List.set_cons_zero, List.set_cons_succ]
                                refine WL.take (i := 17) (v := ?_) rfl (by kernel_rfl) (by kernel_rfl) (by kernel_rfl) (by kernel_rfl) (fun _ _ _ h => h) (Or.inl ⟨by rfl, ?_⟩) (by assumption) ?_
                                rotate_left 1
                                · (intro w' hSw; (try (replace hSw := hSw (by decide); dsimp only at hSw)); go_split_ands; go_simp; try with_reducible rfl)
                                simp only [Act.put, List.getElem_toArray, List.getElem_cons_zero, List.getElem_cons_succ, List.setIfInBounds_toArray, List.set_cons_zero, List.set_cons_succ]
                                refine WL.take (i := 18) (v := .slice A' N0 (cB - F0)) rfl (by kernel_rfl) (by kernel_rfl) (by kernel_rfl) (by kernel_rfl) (fun _ _ _ h => h) (yieldsIf_slice (by rfl) _ _ _ _ rfl _ _ _ (by rfl) (by rfl) (by rfl) _ Tryz.underlying25 _ hx) hT ?_
                                simp only [Act.put, List.getElem_toArray, List.getElem_cons_zero, List.getElem_cons_succ, List.setIfInBounds_toArray, List.set_cons_zero, List.set_cons_succ]
                                have hrq := (HMID.out wq ch rfl HRQ.out)
                                rw [← HPB.out] at hrq
                                have hpl : (pieceB cs (I, F0, N0)).length = N0 := by rw [HPB.out, List.length_take, List.length_drop]; omega
                                obtain ⟨pc, hpce⟩ : ∃ pc, pieceB cs (I, F0, N0) = pc := ⟨_, rfl⟩
                                rw [hpce] at hrq hpl
                                have HPC := Lib.hid hpce
                                have hgp2 : got.length + pc.length ≤ 4000 := by
                                  have h1 := pieces_le cs xs (k + 1)
                                  rw [pieces_succ cs xs k hlk, HY.out, HPC.out, HGOT.out, HCAT.out, List.length_append, List.length_take, List.length_drop] at h1
                                  omega
                                have HPL := Lib.hid hpl
                                clear hpce hpl hx hhI
                                refine WL.late (i := 19) (by kernel_rfl) rfl (by kernel_rfl) (fun K hK => ?_)
                                rw [if_pos (by rfl)]
                                refine wp_append_NN wC.heap.size (.tmp 286) (.tmp 304) 25 5 .u8 1 (by rfl) Tryz.underlying25 info_u8 (by decide) (.slice Ag got.length cg) got pc A' (cB - F0) (by rfl) (by rw [HPL.out]; rfl) ((HOG.out.kept HBQ.out).kept (Below.refl _ _).drew) (hrq.below (Below.refl _ _).drew) (Nat.le_trans hzW HBQ.out.size) (by omega) ?_
                                intro v5 w5 ho5 hg5 hat5
                                have hb5 : Below wC.heap.size wC w5 := by
                                  refine (HBW.out.trans ((HBQ.out.trans ((Below.refl _ wq).drew.mono HBQ.out.size)).mono hzW)).grown hg5 (Nat.le_trans hzW HBQ.out.size) (fun j ej => own_base HOG.out j ej)
                                have HO5 := Lib.hid ho5
                                have HB5 := Lib.hid hb5
                                clear ho5 hg5 hat5 hb5 hrq hT s1 s2'
                                go_simp
                                refine hK.out _ _ ?_
                                clear hK K
                                refine WL.late (i := 20) (by kernel_rfl) rfl (by kernel_rfl) (fun K hK => ?_)
                                go_simp
                                refine hK.out _ _ ?_
                                clear hK K
                                refine WL.done (by kernel_rfl) ?_ _
                                go_wp2_with fail
                                refine ⟨⟨k + 1, by omega, by first | rfl | go_num, ?_, HB5.out⟩, by simp [intOf]; omega⟩
                                rw [pieces_succ cs xs k hlk, HY.out, HPC.out, HGOT.out]
                                exact HO5.out
                              · as_aux_lemma =>
                                  have dk : decide ((k : Int) < (xs.length : Int)) = false := decide_eq_false (by omega)
                                  have dk' : decide (k < xs.length) = false := decide_eq_false hlk
                                  have hgq : got = (q.drop a).take m := by
                                    rw [← HGOT.out, List.take_of_length_le (by omega), HCAT.out]
                                  have HGQ := Lib.hid hgq
                                  obtain ⟨i0, hi0, hz0, hz1, _⟩ := info_parts info_u8
                                  obtain ⟨am, hame⟩ : ∃ am, a + m = am := ⟨_, rfl⟩
                                  obtain ⟨A', hx, hmid⟩ := RN.mid (P := Tryz.prog) 25 5 .u8 Tryz.underlying25 hi0 hz1 A q.length c2 a am (by omega) (by omega) hqc
                                  have e1 : am - a = m := by omega
                                  rw [e1] at hx hmid
                                  have haI : (a : Int) + (m : Int) = (am : Int) := by omega
                                  have HKL := Lib.hid (KL_c wr.drew)
                                  have HMID := Lib.hid hmid
                                  have HX := Lib.hid hx
                                  have HAI := Lib.hid haI
                                  have hame' : a + m ≤ am ∧ am ≤ a + m := by omega
                                  clear hgq hame e1 hmid hx haI hsc
                                  go_upto_region 52 with (fail)
                                  have hx := HX.out
                                  have haI : IntKind.i64.wrap ((a : Int) + (m : Int)) = (am : Int) := by rw [IntKind.wrap_i64]; have := HAI.out; omega
                                  have hT0 : RN .u8 wr Ag got ∧ RN .u8 wr A q := ⟨by obtain ⟨_, _, e, _, hr, _⟩ := RV.ofOwnN HOG.out; cases e; exact hr.rn, HRQ4.out.below HST.out.below⟩
                                  have HT0 := Lib.hid hT0
                                  clear hT0
                                  refine wp_region_late [7, 14] (fun w' => Hid (RN .u8 w' Ag got ∧ RN .u8 w' A q)) (by kernel_rfl) (Lib.hid ⟨HT0.out.1.below (Below.refl _ _).drew, HT0.out.2.below (Below.refl _ _).drew⟩) (fun hT => ?_)
                                  refine WL.one (i := 0) (by kernel_rfl) rfl (fun K hK => ?_)
                                  go_simp
                                  refine HKL.out.mono ?_
                                  rintro e w2 ⟨rfl, hb2⟩
                                  have hb2' : Below wr.heap.size wr w2 := (Below.refl _ wr).drew.trans hb2
                                  have hT2 : Hid (RN .u8 w2 Ag got ∧ RN .u8 w2 A q) := Lib.hid ⟨HT0.out.1.below hb2', HT0.out.2.below hb2'⟩
                                  have HB2 := Lib.hid (HST.out.below.trans (hb2'.mono HST.out.below.size))
                                  clear hb2 hb2'
                                  go_simp
                                  refine hK.out _ _ (fun _ => hT2) ?_
                                  clear hK K hT
                                  refine WL.take (i := 1) (v := ?_) rfl (by kernel_rfl) (by kernel_rfl) (by kernel_rfl) (by kernel_rfl) (fun _ _ _ h => h) (Or.inl ⟨by rfl, ?_⟩) (by assumption) ?_
                                  rotate_left 1
                                  · (intro w' hSw; (try (replace hSw := hSw (by decide); dsimp only at hSw)); go_split_ands; go_simp; try with_reducible rfl)
                                  simp only [Act.put, List.getElem_toArray, List.getElem_cons_zero, List.getElem_cons_succ, List.setIfInBounds_toArray, List.set_cons_zero, List.set_cons_succ]
                                  refine WL.take (i := 2) (v := ?_) rfl (by kernel_rfl) (by kernel_rfl) (by kernel_rfl) (by kernel_rfl) (fun _ _ _ h => h) (Or.inl ⟨by rfl, ?_⟩) (by assumption) ?_
                                  rotate_left 1
                                  · (intro w' hSw; (try (replace hSw := hSw (by decide); dsimp only at hSw)); go_split_ands; go_simp; try with_reducible rfl)
                                  simp only [Act.put, List.getElem_toArray, List.getElem_cons_zero, List.getElem_cons_succ, List.setIfInBounds_toArray, List.set_cons_zero, List.set_cons_succ]
                                  refine WL.take (i := 3) (v := ?_) rfl (by kernel_rfl) (by kernel_rfl) (by kernel_rfl) (by kernel_rfl) (fun _ _ _ h => h) (Or.inl ⟨by rfl, ?_⟩) (by assumption) ?_
                                  rotate_left 1
                                  · (intro w' hSw; (try (replace hSw := hSw (by decide); dsimp only at hSw)); go_split_ands; go_simp; try with_reducible rfl)
                                  simp only [Act.put, List.getElem_toArray, List.getElem_cons_zero, List.getElem_cons_succ, List.setIfInBounds_toArray, List.set_cons_zero, List.set_cons_succ]
                                  refine WL.take (i := 4) (v := ?_) rfl (by kernel_rfl) (by kernel_rfl) (by kernel_rfl) (by kernel_rfl) (fun _ _ _ h => h) (Or.inl ⟨by rfl, ?_⟩) (by assumption) ?_
                                  rotate_left 1
                                  · (intro w' hSw; (try (replace hSw := hSw (by decide); dsimp only at hSw)); go_split_ands; go_simp; try with_reducible rfl)
                                  simp only [Act.put, List.getElem_toArray, List.getElem_cons_zero, List.getElem_cons_succ, List.setIfInBounds_toArray, List.set_cons_zero, List.set_cons_succ]
                                  refine WL.take (i := 5) (v := ?_) rfl (by kernel_rfl) (by kernel_rfl) (by kernel_rfl) (by kernel_rfl) (fun _ _ _ h => h) (Or.inl ⟨by rfl, ?_⟩) (by assumption) ?_
                                  rotate_left 1
                                  · (intro w' hSw; (try (replace hSw := hSw (by decide); dsimp only at hSw)); go_split_ands; go_simp; try with_reducible rfl)
                                  simp only [Act.put, List.getElem_toArray, List.getElem_cons_zero, List.getElem_cons_succ, List.setIfInBounds_toArray, List.set_cons_zero, List.set_cons_succ]
                                  refine WL.take (i := 6) (v := ?_) rfl (by kernel_rfl) (by kernel_rfl) (by kernel_rfl) (by kernel_rfl) (fun _ _ _ h => h) (Or.inl ⟨by rfl, ?_⟩) (by assumption) ?_
                                  rotate_left 1
                                  · (intro w' hSw; (try (replace hSw := hSw (by decide); dsimp only at hSw)); go_split_ands; go_simp; try with_reducible rfl)
                                  simp only [Act.put, List.getElem_toArray, List.getElem_cons_zero, List.getElem_cons_succ, List.setIfInBounds_toArray, List.set_cons_zero, List.set_cons_succ]
                                  have hgm : got.length = m := by rw [HGQ.out, List.length_take, List.length_drop]; omega
                                  have HGM := Lib.hid hgm
                                  obtain ⟨S, hS⟩ : ∃ S, strN got = S := ⟨_, rfl⟩
                                  have HS := Lib.hid hS
                                  clear hgm hS
                                  refine WL.take (i := 7) (v := .string S) rfl (by kernel_rfl) (by kernel_rfl) (by kernel_rfl) (by kernel_rfl) (fun _ _ _ h => h) (yieldsIf_conv (by rfl) _ _ _ rfl _ _ (by rfl) (fun w' h => by
                                    have := RN.string (P := Tryz.prog) (c := cg) Tryz.underlying25 Tryz.underlying5 Tryz.underlying9 (h (by decide)).out.1
                                    rw [HS.out] at this
                                    exact this)) hT2 ?_
                                  simp only [Act.put, List.getElem_toArray, List.getElem_cons_zero, List.getElem_cons_succ, List.setIfInBounds_toArray, List.set_cons_zero, List.set_cons_succ]
                                  refine WL.take (i := 8) (v := ?_) rfl (by kernel_rfl) (by kernel_rfl) (by kernel_rfl) (by kernel_rfl) (fun _ _ _ h => h) (Or.inl ⟨by rfl, ?_⟩) (by assumption) ?_
                                  rotate_left 1
                                  · (intro w' hSw; (try (replace hSw := hSw (by decide); dsimp only at hSw)); go_split_ands; go_simp; try with_reducible rfl)
                                  simp only [Act.put, List.getElem_toArray, List.getElem_cons_zero, List.getElem_cons_succ, List.setIfInBounds_toArray, List.set_cons_zero, List.set_cons_succ]
                                  refine WL.take (i := 9) (v := ?_) rfl (by kernel_rfl) (by kernel_rfl) (by kernel_rfl) (by kernel_rfl) (fun _ _ _ h => h) (Or.inl ⟨by rfl, ?_⟩) (by assumption) ?_
                                  rotate_left 1
                                  · (intro w' hSw; (try (replace hSw := hSw (by decide); dsimp only at hSw)); go_split_ands; go_simp; try with_reducible rfl)
                                  simp only [Act.put, List.getElem_toArray, List.getElem_cons_zero, List.getElem_cons_succ, List.setIfInBounds_toArray, List.set_cons_zero, List.set_cons_succ]
                                  refine WL.take (i := 10) (v := ?_) rfl (by kernel_rfl) (by kernel_rfl) (by kernel_rfl) (by kernel_rfl) (fun _ _ _ h => h) (Or.inl ⟨by rfl, ?_⟩) (by assumption) ?_
                                  rotate_left 1
                                  · (intro w' hSw; (try (replace hSw := hSw (by decide); dsimp only at hSw)); go_split_ands; go_simp; try with_reducible rfl)
                                  simp only [Act.put, List.getElem_toArray, List.getElem_cons_zero, List.getElem_cons_succ, List.setIfInBounds_toArray, List.set_cons_zero, List.set_cons_succ]
                                  refine WL.take (i := 11) (v := ?_) rfl (by kernel_rfl) (by kernel_rfl) (by kernel_rfl) (by kernel_rfl) (fun _ _ _ h => h) (Or.inl ⟨by rfl, ?_⟩) (by assumption) ?_
                                  rotate_left 1
                                  · (intro w' hSw; (try (replace hSw := hSw (by decide); dsimp only at hSw)); go_split_ands; go_simp; try with_reducible rfl)
                                  simp only [Act.put, List.getElem_toArray, List.getElem_cons_zero, List.getElem_cons_succ, List.setIfInBounds_toArray, List.set_cons_zero, List.set_cons_succ]
                                  refine WL.take (i := 12) (v := ?_) rfl (by kernel_rfl) (by kernel_rfl) (by kernel_rfl) (by kernel_rfl) (fun _ _ _ h => h) (Or.inl ⟨by rfl, ?_⟩) (by assumption) ?_
                                  rotate_left 1
                                  · (intro w' hSw; (try (replace hSw := hSw (by decide); dsimp only at hSw)); go_split_ands; go_simp; try with_reducible rfl)
                                  simp only [Act.put, List.getElem_toArray, List.getElem_cons_zero, List.getElem_cons_succ, List.setIfInBounds_toArray, List.set_cons_zero, List.set_cons_succ]
                                  refine WL.take (i := 13) (v := .slice A' m (c2 - a)) rfl (by kernel_rfl) (by kernel_rfl) (by kernel_rfl) (by kernel_rfl) (fun _ _ _ h => h) (yieldsIf_slice (by rfl) _ _ _ _ rfl _ _ _ (by rfl) (by rfl) (by rfl) _ Tryz.underlying25 _ hx) hT2 ?_
                                  simp only [Act.put, List.getElem_toArray, List.getElem_cons_zero, List.getElem_cons_succ, List.setIfInBounds_toArray, List.set_cons_zero, List.set_cons_succ]
                                  refine WL.take (i := 14) (v := .string S) rfl (by kernel_rfl) (by kernel_rfl) (by kernel_rfl) (by kernel_rfl) (fun _ _ _ h => h) (yieldsIf_conv (by rfl) _ _ _ rfl _ _ (by rfl) (fun w' h => by
                                    have := RN.string (P := Tryz.prog) (c := c2 - a) Tryz.underlying25 Tryz.underlying5 Tryz.underlying9 (HMID.out w' q rfl (h (by decide)).out.2)
                                    rw [← HGQ.out, HGM.out, HS.out] at this
                                    exact this)) hT2 ?_
                                  simp only [Act.put, List.getElem_toArray, List.getElem_cons_zero, List.getElem_cons_succ, List.setIfInBounds_toArray, List.set_cons_zero, List.set_cons_succ]
                                  refine WL.take (i := 15) (v := ?_) rfl (by kernel_rfl) (by kernel_rfl) (by kernel_rfl) (by kernel_rfl) (fun _ _ _ h => h) (Or.inl ⟨by rfl, ?_⟩) (by assumption) ?_
                                  rotate_left 1
                                  · (intro w' hSw; (try (replace hSw := hSw (by decide); dsimp only at hSw)); go_split_ands; go_simp; try with_reducible rfl)
                                  simp only [Act.put, List.getElem_toArray, List.getElem_cons_zero, List.getElem_cons_succ, List.setIfInBounds_toArray, List.set_cons_zero, List.set_cons_succ]
                                  refine WL.take (i := 16) (v := ?_) rfl (by kernel_rfl) (by kernel_rfl) (by kernel_rfl) (by kernel_rfl) (fun _ _ _ h => h) (Or.inl ⟨by rfl, ?_⟩) (by assumption) ?_
                                  rotate_left 1
                                  · (intro w' hSw; (try (replace hSw := hSw (by decide); dsimp only at hSw)); go_split_ands; go_simp; try with_reducible rfl)
                                  simp only [Act.put, List.getElem_toArray, List.getElem_cons_zero, List.getElem_cons_succ, List.setIfInBounds_toArray, List.set_cons_zero, List.set_cons_succ]
                                  refine WL.take (i := 17) (v := ?_) rfl (by kernel_rfl) (by kernel_rfl) (by kernel_rfl) (by kernel_rfl) (fun _ _ _ h => h) (Or.inl ⟨by rfl, ?_⟩) (by assumption) ?_
                                  rotate_left 1
                                  · (intro w' hSw; (try (replace hSw := hSw (by decide); dsimp only at hSw)); go_split_ands; go_simp; try with_reducible rfl)
                                  simp only [Act.put, List.getElem_toArray, List.getElem_cons_zero, List.getElem_cons_succ, List.setIfInBounds_toArray, List.set_cons_zero, List.set_cons_succ]
                                  refine WL.done (by kernel_rfl) ?_ _
                                  clear hT2 hx haI
                                  go_wp2_with fail
                                  go_ret
                                  exact ⟨rfl, HBW4.out.trans (HB2.out.mono hzz)⟩
end Go.Proofs.YtbcamfbbooggfaaGreat.F
