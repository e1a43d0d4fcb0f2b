/- A part is cut out of a run of a map. -/
import Derived.Test.YtdfgaomlahpblaaEi
import Derived.Test.YtdfgaomlahpblaaRl
import Derived.Deep.RegionHeld3
set_option linter.unusedVariables false
set_option linter.unusedSimpArgs false
namespace Go.Proofs.Ytdfgaomlahpblaa.F
open Go.RowKit Go.Proofs.YtdfgaomlahpblaaW.PrintWords

/-- A map in a world. -/
def EM (W : World) (base b f t : Nat) (l : List Rn) : Prop := ∃ v, EMb W b f t v ∧ OR W base v l ∧ (l = [] → v = .slice none 0 0)
theorem or_some {W : World} {base : Nat} {l : List Rn} {v : Value} (h : OR W base v l) (hp : 0 < l.length) : ∃ g c, v = .slice (some ⟨g, 0, none⟩) l.length c ∧ base ≤ g ∧ l.length ≤ c := by
  rcases h.2 with ⟨e, h0⟩ | ⟨g, cap, cur, e, hb, _, hc, _⟩
  · omega
  · exact ⟨g, cap, e, hb, hc⟩
/-- The two parts that may be left of a run. -/
def twoP (r : Rn) (a n : Nat) : List Rn := [(r.1, a - r.1), (a + n, r.1 + r.2 - (a + n))]
def leftP (r : Rn) (a n j : Nat) : List Rn := ((twoP r a n).take j).filter (fun x => decide (0 < x.2))
theorem leftP_two (r : Rn) (a n : Nat) : leftP r a n 2 = pieces r a n := by
  unfold pieces leftP twoP
  show List.filter _ [_, _] = _
  by_cases h1 : r.1 < a <;> by_cases h2 : a + n < r.1 + r.2
  · rw [if_pos h1, if_pos h2, List.filter_cons_of_pos (by simp; omega), List.filter_cons_of_pos (by simp; omega), List.filter_nil]; rfl
  · rw [if_pos h1, if_neg h2, List.filter_cons_of_pos (by simp; omega), List.filter_cons_of_neg (by simp; omega), List.filter_nil]; rfl
  · rw [if_neg h1, if_pos h2, List.filter_cons_of_neg (by simp; omega), List.filter_cons_of_pos (by simp; omega), List.filter_nil]; rfl
  · rw [if_neg h1, if_neg h2, List.filter_cons_of_neg (by simp; omega), List.filter_cons_of_neg (by simp; omega), List.filter_nil]; rfl
theorem leftP_succ (r : Rn) (a n j : Nat) (hj : j < 2) : leftP r a n (j + 1) = leftP r a n j ++ (if 0 < ((twoP r a n)[j]'(by simpa [twoP] using hj)).2 then [(twoP r a n)[j]'(by simpa [twoP] using hj)] else []) := by
  unfold leftP
  rw [List.take_succ_eq_append_getElem (by simpa [twoP] using hj), List.filter_append]
  congr 1
  split
  · rename_i h; rw [List.filter_cons_of_pos (by simpa using h)]; rfl
  · rename_i h; rw [List.filter_cons_of_neg (by simpa using h)]; rfl
theorem leftP_len (r : Rn) (a n j : Nat) : (leftP r a n j).length ≤ 2 := by
  unfold leftP
  refine Nat.le_trans (List.length_filter_le _ _) ?_
  rw [List.length_take]
  simp [twoP]
  omega
/-- 'runs[m:]'. -/
theorem RU.cut (g n c m : Nat) (hm : m ≤ n) : ∃ A' : Option Addr, (∀ W : World, (Instr.slice 45 (.slice (some ⟨g, 0, none⟩) n c) (some (.int .i64 (m : Int))) none none).run Try.prog W = .ok (.slice A' (n - m) (c - m)) W) ∧
    ∀ (W : World) (l : List Rn), l.length = n → n ≤ c → RU W (some ⟨g, 0, none⟩) l → RU W A' (l.drop m) := by
  obtain ⟨i0, hi0, hz0, hz1, hz2⟩ := info_parts info_run
  have hel : Program.elem Try.prog 45 = 38 := by simp [Program.elem, Try.underlying45]
  have hu : Try.prog.underlying 45 = some (.slice (Program.elem Try.prog 45)) := by rw [hel]; exact Try.underlying45
  refine ⟨if c = m then some ⟨g, 0, none⟩ else some ⟨g, m * 2, none⟩, fun W => ?_, fun W l hl hc h => ?_⟩
  · rw [run_slice_l W 45 (some ⟨g, 0, none⟩) n c hu .i64 (m : Int) (Int.natCast_nonneg _) (by omega), hel]
    by_cases hcm : c = m <;> simp [sizeOf, typeInfo, hi0, hz1, sliced, Result.andThen, hcm, Addr.add_lit]
  · refine ⟨by have := h.1; rw [List.length_drop]; omega, fun hp => ?_⟩
    rw [List.length_drop] at hp
    rw [if_neg (by omega)]
    obtain ⟨g', o', e, hg, hcell⟩ := h.2 (by omega)
    cases e
    refine ⟨g, m * 2, rfl, hg, fun j u hu => ?_⟩
    rw [← flatR_drop, List.getElem?_drop] at hu
    have := hcell _ u hu
    rwa [Nat.zero_add] at this
theorem RU.takeN {W : World} {g : Nat} {l : List Rn} (h : RU W (some ⟨g, 0, none⟩) l) (m : Nat) : RU W (some ⟨g, 0, none⟩) (l.take m) := by
  refine ⟨by have := h.1; rw [List.length_take]; omega, fun hp => ?_⟩
  rw [List.length_take] at hp
  obtain ⟨g', o', e, hg, hcell⟩ := h.2 (by omega)
  cases e
  refine ⟨g, 0, rfl, hg, fun j u hu => hcell j u ?_⟩
  rw [← flatR_take, List.getElem?_take] at hu
  split at hu
  · exact hu
  · cases hu
set_option maxRecDepth 20000 in
set_option maxHeartbeats 8000000 in
theorem cut_c (base b f t : Nat) (l : List Rn) (i a n : Nat) (w : World) (hm : EM w base b f t l) (hb : b < w.heap.size) (hi : i < l.length) (h1 : (l.getD i (0, 0)).1 ≤ a) (h2 : a + n ≤ (l.getD i (0, 0)).1 + (l.getD i (0, 0)).2) (hn : ∀ r ∈ l, r.1 + r.2 ≤ 5000) (hl : l.length ≤ 10000) :
    Calls Try.prog 28 #[.pointer (some ⟨b, 0, none⟩), .int .i64 i, .agg #[.int .i64 a, .int .i64 n]] w fun e w' => e = .returned (.tuple #[]) ∧ EM w' w.heap.size b f t (cutL l i a n) ∧ Gr (fun k => k = b) w w' := by
  obtain ⟨v, hmb, ho, hnil⟩ := hm
  obtain ⟨g, c, e, hbg, hcl⟩ := or_some ho (by omega)
  subst e
  obtain ⟨A', c', e, hcc, hr⟩ := ho.reads
  cases e
  obtain ⟨g', o', eA, hg, a1, a2⟩ := hr.at i hi
  cases eA
  rw [show l.getD i (0, 0) = l[i] by simp [List.getD_eq_getElem?_getD, hi]] at h1 h2
  have b1 := hn _ (List.getElem_mem hi)
  have hcut : cutL l i a n = l.take i ++ pieces l[i] a n ++ l.drop (i + 1) := by unfold cutL; rw [show l.getD i (0, 0) = l[i] by simp [List.getD_eq_getElem?_getD, hi]]
  obtain ⟨r, hrr⟩ : ∃ r, l[i] = r := ⟨_, rfl⟩
  rw [hrr] at a1 a2 h1 h2 b1 hcut
  simp only [Nat.zero_add] at a1 a2
  have c2 := hmb.c2
  have i0 : (0 : Int) ≤ (i : Int) := by omega
  have i1 : (i : Int) < (l.length : Int) := by omega
  have i2 : (i : Int) ≤ (c : Int) := by omega
  have n0 : (l.length : Int) ≤ 10000 := by omega
  have hne : ¬ (w.heap.size = b) := by omega
  have hne2 : ¬ (w.heap.size = g) := by omega
  obtain ⟨x1, hx1⟩ : ∃ x, r.1 = x := ⟨_, rfl⟩
  obtain ⟨x2, hx2⟩ : ∃ x, r.2 = x := ⟨_, rfl⟩
  rw [hx1] at a1 h1 h2 b1
  rw [hx2] at a2 h2 b1
  have HR := Lib.hid (show r = (x1, x2) from Prod.ext hx1 hx2)
  have k1 : (x1 : Int) ≤ (a : Int) := by omega
  have k2 : (a : Int) + n ≤ (x1 : Int) + x2 := by omega
  have k3 : (x1 : Int) + x2 ≤ 5000 := by omega
  have HM := Lib.hid hmb
  have HO := Lib.hid ho
  have HRU := Lib.hid hr
  have HCUT := Lib.hid hcut
  clear hmb ho hr hcut hrr hx1 hx2 hnil hn hcc
  go_enter Try.func28, Try.ntmps28
  go_wp2_with fail
  have hw3 : ∃ W3, ((w.alloc (.cells #[.int .i64 (a : Nat), .int .i64 (n : Nat)] 38)).alloc (.cells #[.int .i64 (x1 : Nat), .int .i64 (x2 : Nat)] 38)).alloc (.cells #[.int .i64 (x1 : Nat), .int .i64 ((a : Int) - x1), .int .i64 ((a : Int) + n), .int .i64 ((x1 : Int) + x2 - a - n)] 38) = W3 := ⟨_, rfl⟩
  obtain ⟨W3, hW3⟩ := hw3
  have hs3 : W3.heap.size = w.heap.size + 3 := by rw [← hW3]; simp
  have hb3 : Below w.heap.size w W3 := by rw [← hW3]; exact (((Below.refl _ _).alloc (Nat.le_refl _) _).alloc (by simp) _).alloc (by simp; omega) _
  have hg3 : W3.heap[w.heap.size + 1 + 1]? = some (.cells (flatR (twoP r a n)).toArray 38 (0, 0)) := by
    rw [← hW3, HR.out]
    have e1 : ((a - x1 : Nat) : Int) = (a : Int) - x1 := by omega
    have e2 : ((a + n : Nat) : Int) = (a : Int) + n := by omega
    have e3 : ((x1 + x2 - (a + n) : Nat) : Int) = (x1 : Int) + x2 - a - n := by omega
    have h := heap_alloc_new ((w.alloc (.cells #[.int .i64 (a : Nat), .int .i64 (n : Nat)] 38)).alloc (.cells #[.int .i64 (x1 : Nat), .int .i64 (x2 : Nat)] 38)) (.cells #[.int .i64 (x1 : Nat), .int .i64 ((a : Int) - x1), .int .i64 ((a : Int) + n), .int .i64 ((x1 : Int) + x2 - a - n)] 38)
    simp only [World.size_alloc] at h
    rw [h]
    simp [twoP, flatR, e1, e2, e3]
  have hru : RU W3 (some ⟨w.heap.size + 1 + 1, 0, none⟩) (twoP r a n) := by
    refine ⟨by simp [twoP], fun _ => ⟨_, 0, rfl, by omega, fun j u hu => ?_⟩⟩
    rw [Nat.zero_add, cell_of_row _ _ _ _ _ _ hg3]
    simpa using hu
  have hol : OR W3 (w.heap.size + 3) (.slice none 0 0) (leftP r a n 0) := OR.nil _ _
  have HW3 := Lib.hid hW3
  have HB3 := Lib.hid hb3
  have HRU2 := Lib.hid hru
  have HOL := Lib.hid hol
  clear hW3 hb3 hg3 hru hol
  rw [HW3.out]
  go_loopw [7, 44] (fun vl vi W => ∃ j : Nat, j ≤ 2 ∧ vi = .int .i64 j ∧ OR W (w.heap.size + 3) vl (leftP r a n j) ∧ Below W3.heap.size W3 W) (fun _ vi _ => 2 - (intOf vi).toNat)
  case atStart => exact ⟨0, by omega, rfl, HOL.out, Below.refl _ _⟩
  case round =>
    obtain ⟨j, hj, rfl, hol, hB⟩ := hrel
    have HOL2 := Lib.hid hol
    have HB := Lib.hid hB
    have hsz := hB.size
    clear hol hB
    by_cases hlt : j < 2
    · have hd : decide ((j : Int) < 2) = true := decide_eq_true (by omega)
      have hst := leftP_succ r a n j hlt
      have htl : j < (twoP r a n).length := hlt
      obtain ⟨g5, o5, e5, _, d1, d2⟩ := (HRU2.out.below HB.out).at j htl
      cases e5
      simp only [Nat.zero_add] at d1 d2
      have hbd : ((twoP r a n)[j].1 : Nat) ≤ 10000 ∧ ((twoP r a n)[j].2 : Nat) ≤ 10000 := by
        rw [HR.out]
        have : j = 0 ∨ j = 1 := by omega
        rcases this with rfl | rfl <;> simp [twoP] <;> omega
      obtain ⟨⟨p, q⟩, hpq⟩ : ∃ x, (twoP r a n)[j] = x := ⟨_, rfl⟩
      rw [hpq] at d1 d2 hbd hst
      dsimp only at d1 d2 hbd hst
      have HST := Lib.hid hst
      have j0 : (0 : Int) ≤ (j : Int) := by omega
      have j1 : (j : Int) < 2 := by omega
      have hgl : w.heap.size + 1 + 1 < wr.heap.size := by omega
      clear hpq hst
      by_cases hq : 0 < q
      · have dq : decide ((0 : Int) < (q : Int)) = true := decide_eq_true (by omega)
        have hb1 : Below wr.heap.size wr ((wr.alloc (.cells #[.int .i64 (p : Nat), .int .i64 (q : Nat)] 38)).alloc (.cells #[.int .i64 (p : Nat), .int .i64 (q : Nat)] 38)) := ((Below.refl _ _).alloc (Nat.le_refl _) _).alloc (by simp) _
        have hone := RU.one (W := ((wr.alloc (.cells #[.int .i64 (p : Nat), .int .i64 (q : Nat)] 38)).alloc (.cells #[.int .i64 (p : Nat), .int .i64 (q : Nat)] 38))) (vb := wr.heap.size + 1) (r := (p, q)) (by
          have h := heap_alloc_new (wr.alloc (.cells #[.int .i64 (p : Nat), .int .i64 (q : Nat)] 38)) (.cells #[.int .i64 (p : Nat), .int .i64 (q : Nat)] 38)
          simp only [World.size_alloc] at h
          exact h)
        have ho1 := HOL2.out.below hb1
        have HB1 := Lib.hid hb1
        have HONE := Lib.hid hone
        have HO1 := Lib.hid ho1
        have hll := leftP_len r a n j
        have hs1 : w.heap.size + 3 ≤ ((wr.alloc (.cells #[.int .i64 (p : Nat), .int .i64 (q : Nat)] 38)).alloc (.cells #[.int .i64 (p : Nat), .int .i64 (q : Nat)] 38)).heap.size := by simp; omega
        clear hb1 hone ho1
        obtain ⟨wo, rfl⟩ : ∃ wo : World, wo = wr := ⟨_, rfl⟩
        go_wp2_with (at_builtin; refine append_RU (w.heap.size + 3) rfl _ _ rfl _ _ [(p, q)] _ 1 rfl rfl HO1.out HONE.out hs1 (by simp; omega) ?_; intro v6 w6 ho6 hg6 hv6)
        have hb6 : Below W3.heap.size W3 w6 := (HB.out.trans (HB1.out.mono hsz)).grown hg6 (by simp; omega) (fun k hk => by have := own_base HO1.out k hk; omega)
        have ho6' : OR w6 (w.heap.size + 3) v6 (leftP r a n (j + 1)) := by rw [HST.out, if_pos hq]; exact ho6
        have HO6 := Lib.hid ho6'
        have HB6 := Lib.hid hb6
        clear ho6 hg6 hv6 hb6 ho6'
        go_wp2_with fail
        exact ⟨⟨j + 1, by omega, by go_num, HO6.out, HB6.out⟩, by simp [intOf]; omega⟩
      · have dq : decide ((0 : Int) < (q : Int)) = false := decide_eq_false (by omega)
        have hb1 : Below wr.heap.size wr (wr.alloc (.cells #[.int .i64 (p : Nat), .int .i64 (q : Nat)] 38)) := (Below.refl _ _).alloc (Nat.le_refl _) _
        have ho1 := HOL2.out.below hb1
        have ho6' := ho1
        rw [show leftP r a n j = leftP r a n (j + 1) by rw [HST.out, if_neg hq, List.append_nil]] at ho6'
        have HO6 := Lib.hid ho6'
        have HB6 := Lib.hid (HB.out.trans (hb1.mono hsz))
        clear hb1 ho1 ho6'
        go_wp2_with fail
        exact ⟨⟨j + 1, by omega, by go_num, HO6.out, HB6.out⟩, by simp [intOf]; omega⟩
    · have hd : decide ((j : Int) < 2) = false := decide_eq_false (by omega)
      obtain rfl : j = 2 := by omega
      have hol := HOL2.out
      rw [leftP_two] at hol
      obtain ⟨Al, cl, el, hcl2, hrl⟩ := hol.reads
      subst el
      have hpl : (pieces r a n).length ≤ 2 := by rw [← leftP_two]; exact leftP_len r a n 2
      obtain ⟨L, hL⟩ : ∃ L, pieces r a n = L := ⟨_, rfl⟩
      rw [hL] at hol hrl hpl hcl2 ⊢
      have HLL := Lib.hid hL
      have HRL := Lib.hid hrl
      have hmr : EMb wr b f t (.slice (some ⟨g, 0, none⟩) l.length c) := HM.out.move ((HB.out.block b (by omega)).trans (HB3.out.block b hb))
      have hor : OR wr base (.slice (some ⟨g, 0, none⟩) l.length c) l := (HO.out.below HB3.out).below HB.out
      have c2r := hmr.c2
      have f2r := hmr.fr 2
      have HMR := Lib.hid hmr
      have HOR := Lib.hid hor
      clear hL hrl hmr hor hol HOL2
      go_wp2_with fail
      obtain ⟨A3, hA3, hr3⟩ := RU.cut g l.length c (i + 1) (by omega)
      have hru0 : RU wr (some ⟨g, 0, none⟩) l := (HRU.out.below HB3.out).below HB.out
      have hr3' := hr3 wr l rfl hcl hru0
      have hb4 : Below wr.heap.size wr (wr.drew.alloc (.cells #[.slice (some ⟨g, 0, none⟩) i i, .slice Al L.length cl, .slice A3 (l.length - (i + 1)) (c - (i + 1))] 45)) := (Below.refl _ _).drew.alloc (Nat.le_refl _) _
      have hg4 := heap_alloc_new wr.drew (.cells #[.slice (some ⟨g, 0, none⟩) i i, .slice Al L.length cl, .slice A3 (l.length - (i + 1)) (c - (i + 1))] 45)
      have hlt : (l.take i).length = i := by rw [List.length_take]; omega
      have hld : (l.drop (i + 1)).length = l.length - (i + 1) := by rw [List.length_drop]
      have hss : srs [(some ⟨g, 0, none⟩, i, l.take i), (Al, cl, L), (A3, c - (i + 1), l.drop (i + 1))] = cutL l i a n := by
        rw [HCUT.out, HLL.out]
        simp [srs]
      have hsl : (cutL l i a n).length ≤ 100000 := by
        rw [HCUT.out, HLL.out]
        simp
        omega
      have hcc := Concat_c wr.heap.size 3 [(some ⟨g, 0, none⟩, i, l.take i), (Al, cl, L), (A3, c - (i + 1), l.drop (i + 1))] (wr.drew.alloc (.cells #[.slice (some ⟨g, 0, none⟩) i i, .slice Al L.length cl, .slice A3 (l.length - (i + 1)) (c - (i + 1))] 45))
        (by simp) (fun k hk => by
          rw [cell_of_row _ wr.heap.size _ _ _ _ hg4]
          have : k = 0 ∨ k = 1 ∨ k = 2 := by simp at hk; omega
          rcases this with rfl | rfl | rfl <;> simp [srv, hlt, hld]) (fun x hx => by
          simp only [List.mem_cons, List.not_mem_nil, or_false] at hx
          rcases hx with rfl | rfl | rfl
          · exact (RU.takeN hru0 i).below hb4
          · exact HRL.out.below hb4
          · exact hr3'.below hb4) (by rw [hss]; exact hsl) (by simp)
      rw [hss] at hcc
      have HCC := Lib.hid hcc
      have HB4 := Lib.hid hb4
      have hrun3 : ∀ W : World, (Instr.slice 45 (.slice (some ⟨g, 0, none⟩) l.length c) (some (.int .i64 ((i : Int) + 1))) none none).run Try.prog W = .ok (.slice A3 (l.length - (i + 1)) (c - (i + 1))) W := fun W => hA3 W
      have wr1 : IntKind.i64.wrap ((i : Int) + 1) = (i : Int) + 1 := by rw [IntKind.wrap_i64]; omega
      have KB : ∀ w5 : World, Below (wr.drew.alloc (.cells #[.slice (some ⟨g, 0, none⟩) i i, .slice Al L.length cl, .slice A3 (l.length - (i + 1)) (c - (i + 1))] 45)).heap.size (wr.drew.alloc (.cells #[.slice (some ⟨g, 0, none⟩) i i, .slice Al L.length cl, .slice A3 (l.length - (i + 1)) (c - (i + 1))] 45)) w5 → EMb w5 b f t (.slice (some ⟨g, 0, none⟩) l.length c) := fun w5 h5 =>
        (HMR.out.move (HB4.out.block b (by omega))).move (h5.block b (by simp; omega))
      have HKB := Lib.hid KB
      clear hcc hb4 hg4 hr3 hr3' hA3 hru0 hss hsl hlt hld KB
      refine wp_region_late [4, 12] (fun w' => w'.cell? ⟨b, 2, none⟩ = some (.slice (some ⟨g, 0, none⟩) l.length c)) (by kernel_rfl) c2r (fun hT => ?_)
      refine WL.take (i := 0) (v := ?_) rfl (by kernel_rfl) (by kernel_rfl) (by kernel_rfl) (by kernel_rfl) (fun _ _ _ h => h) (Or.inl ⟨by rfl, ?_⟩) (by assumption) ?_
      rotate_left 1
      · (intro w' hSw; (try (replace hSw := hSw (by decide); dsimp only at hSw)); go_split_ands; go_simp; try with_reducible rfl)
      simp only [Act.put, List.setIfInBounds_toArray, List.set_cons_zero, List.set_cons_succ]
      refine WL.take (i := 1) (v := ?_) rfl (by kernel_rfl) (by kernel_rfl) (by kernel_rfl) (by kernel_rfl) (fun _ _ _ h => h) (Or.inl ⟨by rfl, ?_⟩) (by assumption) ?_
      rotate_left 1
      · (intro w' hSw; (try (replace hSw := hSw (by decide); dsimp only at hSw)); go_split_ands; go_simp; try with_reducible rfl)
      simp only [Act.put, List.setIfInBounds_toArray, List.set_cons_zero, List.set_cons_succ]
      refine WL.take (i := 2) (v := ?_) rfl (by kernel_rfl) (by kernel_rfl) (by kernel_rfl) (by kernel_rfl) (fun _ _ _ h => h) (Or.inl ⟨by rfl, ?_⟩) (by assumption) ?_
      rotate_left 1
      · (intro w' hSw; (try (replace hSw := hSw (by decide); dsimp only at hSw)); go_split_ands; go_simp; try with_reducible rfl)
      simp only [Act.put, List.setIfInBounds_toArray, List.set_cons_zero, List.set_cons_succ]
      refine WL.take (i := 3) (v := ?_) rfl (by kernel_rfl) (by kernel_rfl) (by kernel_rfl) (by kernel_rfl) (fun _ _ _ h => h) (Or.inl ⟨by rfl, ?_⟩) (by assumption) ?_
      rotate_left 1
      · (intro w' hSw; (try (replace hSw := hSw (by decide); dsimp only at hSw)); go_split_ands; go_simp; try with_reducible rfl)
      simp only [Act.put, List.setIfInBounds_toArray, List.set_cons_zero, List.set_cons_succ]
      refine WL.take (i := 4) (v := ?_) rfl (by kernel_rfl) (by kernel_rfl) (by kernel_rfl) (by kernel_rfl) (fun _ _ _ h => h) (Or.inl ⟨by rfl, ?_⟩) (by assumption) ?_
      rotate_left 1
      · (intro w' hSw; (try (replace hSw := hSw (by decide); dsimp only at hSw)); go_split_ands; go_simp; try with_reducible rfl)
      simp only [Act.put, List.setIfInBounds_toArray, List.set_cons_zero, List.set_cons_succ]
      refine WL.take (i := 5) (v := ?_) rfl (by kernel_rfl) (by kernel_rfl) (by kernel_rfl) (by kernel_rfl) (fun _ _ _ h => h) (Or.inl ⟨by rfl, ?_⟩) (by assumption) ?_
      rotate_left 1
      · (intro w' hSw; (try (replace hSw := hSw (by decide); dsimp only at hSw)); go_split_ands; go_simp; try with_reducible rfl)
      simp only [Act.put, List.setIfInBounds_toArray, List.set_cons_zero, List.set_cons_succ]
      refine WL.take (i := 6) (v := ?_) rfl (by kernel_rfl) (by kernel_rfl) (by kernel_rfl) (by kernel_rfl) (fun _ _ _ h => h) (Or.inl ⟨by rfl, ?_⟩) (by assumption) ?_
      rotate_left 1
      · (intro w' hSw; (try (replace hSw := hSw (by decide); dsimp only at hSw)); go_split_ands; go_simp; try with_reducible rfl)
      simp only [Act.put, List.setIfInBounds_toArray, List.set_cons_zero, List.set_cons_succ]
      refine WL.take (i := 7) (v := ?_) rfl (by kernel_rfl) (by kernel_rfl) (by kernel_rfl) (by kernel_rfl) (fun _ _ _ h => h) (Or.inl ⟨by rfl, ?_⟩) (by assumption) ?_
      rotate_left 1
      · (intro w' hSw; (try (replace hSw := hSw (by decide); dsimp only at hSw)); go_split_ands; go_simp; try with_reducible rfl)
      simp only [Act.put, List.setIfInBounds_toArray, List.set_cons_zero, List.set_cons_succ]
      refine WL.take (i := 8) (v := ?_) rfl (by kernel_rfl) (by kernel_rfl) (by kernel_rfl) (by kernel_rfl) (fun _ _ _ h => h) (Or.inl ⟨by rfl, ?_⟩) (by assumption) ?_
      rotate_left 1
      · (intro w' hSw; (try (replace hSw := hSw (by decide); dsimp only at hSw)); go_split_ands; go_simp; try with_reducible rfl)
      simp only [Act.put, List.setIfInBounds_toArray, List.set_cons_zero, List.set_cons_succ]
      refine WL.take (i := 9) (v := ?_) rfl (by kernel_rfl) (by kernel_rfl) (by kernel_rfl) (by kernel_rfl) (fun _ _ _ h => h) (Or.inl ⟨by rfl, ?_⟩) (by assumption) ?_
      rotate_left 1
      · (intro w' hSw; (try (replace hSw := hSw (by decide); dsimp only at hSw)); go_split_ands; go_simp; try with_reducible rfl)
      simp only [Act.put, List.setIfInBounds_toArray, List.set_cons_zero, List.set_cons_succ]
      refine WL.take (i := 10) (v := ?_) rfl (by kernel_rfl) (by kernel_rfl) (by kernel_rfl) (by kernel_rfl) (fun _ _ _ h => h) (Or.inl ⟨by rfl, ?_⟩) (by assumption) ?_
      rotate_left 1
      · (intro w' hSw; (try (replace hSw := hSw (by decide); dsimp only at hSw)); go_split_ands; go_simp; try with_reducible rfl)
      simp only [Act.put, List.setIfInBounds_toArray, List.set_cons_zero, List.set_cons_succ]
      refine WL.take (i := 11) (v := ?_) rfl (by kernel_rfl) (by kernel_rfl) (by kernel_rfl) (by kernel_rfl) (fun _ _ _ h => h) (Or.inl ⟨by rfl, ?_⟩) (by assumption) ?_
      rotate_left 1
      · (intro w' hSw; (try (replace hSw := hSw (by decide); dsimp only at hSw)); go_split_ands; go_simp; try with_reducible rfl)
      simp only [Act.put, List.setIfInBounds_toArray, List.set_cons_zero, List.set_cons_succ]
      refine WL.take (i := 12) (v := ?_) rfl (by kernel_rfl) (by kernel_rfl) (by kernel_rfl) (by kernel_rfl) (fun _ _ _ h => h) (Or.inl ⟨by rfl, ?_⟩) (by assumption) ?_
      rotate_left 1
      · (intro w' hSw; (try (replace hSw := hSw (by decide); dsimp only at hSw)); go_split_ands; go_simp; try with_reducible rfl)
      simp only [Act.put, List.setIfInBounds_toArray, List.set_cons_zero, List.set_cons_succ]
      refine WL.take (i := 13) (v := ?_) rfl (by kernel_rfl) (by kernel_rfl) (by kernel_rfl) (by kernel_rfl) (fun _ _ _ h => h) (Or.inl ⟨by rfl, ?_⟩) (by assumption) ?_
      rotate_left 1
      · (intro w' hSw; (try (replace hSw := hSw (by decide); dsimp only at hSw)); go_split_ands; go_simp; try with_reducible rfl)
      simp only [Act.put, List.setIfInBounds_toArray, List.set_cons_zero, List.set_cons_succ]
      refine WL.take (i := 14) (v := ?_) rfl (by kernel_rfl) (by kernel_rfl) (by kernel_rfl) (by kernel_rfl) (fun _ _ _ h => h) (Or.inl ⟨by rfl, ?_⟩) (by assumption) ?_
      rotate_left 1
      · (intro w' hSw; (try (replace hSw := hSw (by decide); dsimp only at hSw)); go_split_ands; go_simp; try with_reducible rfl)
      simp only [Act.put, List.setIfInBounds_toArray, List.set_cons_zero, List.set_cons_succ]
      refine WL.take (i := 15) (v := ?_) rfl (by kernel_rfl) (by kernel_rfl) (by kernel_rfl) (by kernel_rfl) (fun _ _ _ h => h) (Or.inl ⟨by rfl, ?_⟩) (by assumption) ?_
      rotate_left 1
      · (intro w' hSw; (try (replace hSw := hSw (by decide); dsimp only at hSw)); go_split_ands; go_simp; try with_reducible rfl)
      simp only [Act.put, List.setIfInBounds_toArray, List.set_cons_zero, List.set_cons_succ]
      refine WL.late (i := 16) (by kernel_rfl) rfl (by kernel_rfl) (fun K hK => ?_)
      go_simp
      refine hK.out _ _ ?_
      clear hK K
      refine WL.late (i := 17) (by kernel_rfl) rfl (by kernel_rfl) (fun K hK => ?_)
      go_simp
      go_at_call 41
      refine HCC.out.mono ?_
      rintro e w5 ⟨v5, rfl, ho5, hn5, hb5⟩
      have KM := HKB.out w5 hb5
      have K30 := KM.c2
      have K31 := KM.fr 2
      obtain ⟨A5, c5, e5, _, _⟩ := ho5.reads
      subst e5
      go_simp
      refine hK.out _ _ ?_
      clear hK K
      refine WL.late (i := 18) (by kernel_rfl) rfl (by kernel_rfl) (fun K hK => ?_)
      go_simp
      refine hK.out _ _ ?_
      clear hK K
      refine WL.late (i := 19) (by kernel_rfl) rfl (by kernel_rfl) (fun K hK => ?_)
      go_simp
      refine hK.out _ _ ?_
      clear hK K
      refine WL.late (i := 20) (by kernel_rfl) rfl (by kernel_rfl) (fun K hK => ?_)
      go_simp
      refine hK.out _ _ ?_
      clear hK K
      refine WL.done (by kernel_rfl) ?_ _
      have hb5' : Below w.heap.size w w5 := ((HB3.out.trans (HB.out.mono (by omega))).trans (HB4.out.mono (by omega))).trans (hb5.mono (by simp; omega))
      have ho5' : OR w5 w.heap.size (.slice A5 (cutL l i a n).length c5) (cutL l i a n) := ho5.lower (by simp; omega)
      have hgr : Gr (fun k => k = b) w (w5.setCell ⟨b, 2, none⟩ (.slice A5 (cutL l i a n).length c5)) := (Gr.of_below _ hb5').trans (Gr.setCell (S := fun k => k = b) w5 ⟨b, 2, none⟩ _ rfl) (fun _ _ h => h)
      have hem : EM (w5.setCell ⟨b, 2, none⟩ (.slice A5 (cutL l i a n).length c5)) w.heap.size b f t (cutL l i a n) := by
        refine ⟨_, KM.set _, ho5'.move (fun k hk => heap_setCell_other _ _ _ _ (fun e => ?_)), fun h => hn5 h⟩
        have := (ho5'.typed k hk).1
        subst e
        exact absurd hb (by simp; omega)
      have HGR := Lib.hid hgr
      have HEM := Lib.hid hem
      clear hb5' ho5' hgr hem hn5 hb5 ho5 KM K30 K31 hrun3
      go_wp2_with fail
      go_end0
      exact ⟨rfl, HEM.out, HGR.out⟩
end Go.Proofs.Ytdfgaomlahpblaa.F
