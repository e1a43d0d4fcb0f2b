/- Part 12 of the proof: TEi, TEj, TEk. -/
import Derived.Test.YtbcamfbbooggfaaGreatQ11
import Derived.Test.YtbcamfbbooggfaaGreatQ06
import Derived.Deep.RegionHeld3

section
/- Which runs are meant; a run that is the map's. -/
set_option linter.unusedVariables false
set_option linter.unusedSimpArgs false
namespace Go.Proofs.YtbcamfbbooggfaaGreat.F
open Go.RowKit Go.Proofs.YtbcamfbbooggfaaGreatW.PrintWords

theorem take_pred (bx : Nat) (n : Int) (w : World) (hc : w.cell? ⟨bx, 0, none⟩ = some (.int .i64 n)) : PredB 67 #[.pointer (some ⟨bx, 0, none⟩)] (fun r => decide (n ≤ (r.2 : Int))) w := fun W r hW hr => by
  have c1 : W.cell? ⟨bx, 0, none⟩ = some (.int .i64 n) := (hW.cell (p := ⟨bx, 0, none⟩) (World.block_lt_of_cell? _ _ hc)).trans hc
  obtain ⟨a, m⟩ := r
  have hb : Below W.heap.size W (W.alloc (.cells #[.int .i64 (a : Nat), .int .i64 (m : Nat)] 51)) := (Below.refl _ _).alloc (Nat.le_refl _) _
  have HB := Lib.hid hb
  have hlt := World.block_lt_of_cell? _ _ c1
  have hne : ¬ (W.heap.size = bx) := by
    have h : bx < W.heap.size := hlt
    omega
  clear hb hW hc
  dsimp only at hr ⊢
  show Calls _ _ #[_, _] _ _
  go_enter Tryz.func67, Tryz.ntmps67
  go_wp2_with fail
  go_ret
  exact ⟨rfl, HB.out⟩
theorem claim_pred (bx a n : Nat) (w : World) (hc : w.cell? ⟨bx, 0, none⟩ = some (.int .i64 (a : Nat))) (hc1 : w.cell? ⟨bx, 1, none⟩ = some (.int .i64 (n : Nat))) (han : a + n ≤ 4096) : PredB 82 #[.pointer (some ⟨bx, 0, none⟩)] (fun r => decide ((r.1 : Int) ≤ a) && decide ((a : Int) + n ≤ (r.1 : Int) + r.2)) w := fun W r hW hr => by
  have c1 : W.cell? ⟨bx, 0, none⟩ = some (.int .i64 (a : Nat)) := (hW.cell (p := ⟨bx, 0, none⟩) (World.block_lt_of_cell? _ _ hc)).trans hc
  have c2 : W.cell? ⟨bx, 1, none⟩ = some (.int .i64 (n : Nat)) := (hW.cell (p := ⟨bx, 1, none⟩) (World.block_lt_of_cell? _ _ hc1)).trans hc1
  obtain ⟨x, m⟩ := r
  have hb : Below W.heap.size W (W.alloc (.cells #[.int .i64 (x : Nat), .int .i64 (m : Nat)] 51)) := (Below.refl _ _).alloc (Nat.le_refl _) _
  have HB := Lib.hid hb
  have hlt := World.block_lt_of_cell? _ _ c1
  have hne : ¬ (W.heap.size = bx) := by
    have h : bx < W.heap.size := hlt
    omega
  clear hb hW hc hc1
  dsimp only at hr ⊢
  have n1 : (a : Int) + n ≤ 4096 := by omega
  have n2 : (x : Int) + m ≤ 4096 := by omega
  have n3 : (0 : Int) ≤ (a : Int) + n := by omega
  have n4 : (0 : Int) ≤ (x : Int) + m := by omega
  show Calls _ _ #[_, _] _ _
  by_cases h : (x : Int) ≤ a
  · have hd : decide ((x : Int) ≤ a) = true := decide_eq_true h
    have hd2 : decide (x ≤ a) = true := decide_eq_true (by omega)
    go_enter Tryz.func82, Tryz.ntmps82
    go_wp2_with fail
    all_goals
      go_ret
      exact ⟨by simp [h]; try omega, HB.out⟩
  · have hd : decide ((x : Int) ≤ a) = false := decide_eq_false h
    have hd2 : decide (x ≤ a) = false := decide_eq_false (by omega)
    go_enter Tryz.func82, Tryz.ntmps82
    go_wp2_with fail
    all_goals
      go_ret
      exact ⟨by simp [h]; try omega, HB.out⟩
/-- Is a run a map's? -/
def withinB (f t : Nat) (a n : Int) : Bool := decide (1 ≤ n ∧ (f : Int) ≤ a ∧ a < (t : Int) ∧ n ≤ (t : Int) - a)
set_option maxRecDepth 20000 in
set_option maxHeartbeats 4000000 in
theorem within_c (b f t : Nat) (v : Value) (a n : Int) (w : World) (hm : EMb w b f t v) (ht : t ≤ 5000) (ha : -9223372036854775808 ≤ a ∧ a ≤ 9223372036854775807) :
    Calls Tryz.prog 70 #[.pointer (some ⟨b, 0, none⟩), .agg #[.int .i64 a, .int .i64 n]] w fun e w' => e = .returned (.bool (withinB f t a n)) ∧ Below w.heap.size w w' := by
  have c0 := hm.c0
  have c1 := hm.c1
  have hlt := hm.lt
  obtain ⟨r, hr⟩ : ∃ r, withinB f t a n = r := ⟨_, rfl⟩
  have hb : Below w.heap.size w (w.alloc (.cells #[.int .i64 a, .int .i64 n] 51)) := (Below.refl _ _).alloc (Nat.le_refl _) _
  have HB := Lib.hid hb
  have hne : ¬ (w.heap.size = b) := by omega
  have n0 : (t : Int) ≤ 5000 := by omega
  obtain ⟨ha1, ha2⟩ := ha
  rw [hr]
  clear hb hm
  have k0 : ∀ n, ((w.alloc (.cells #[.int .i64 a, .int .i64 n] 51)).cell? ⟨b, 0, none⟩) = some (.int .i64 (f : Nat)) := fun n => ((Below.refl w.heap.size w).alloc (Nat.le_refl _) (.cells #[.int .i64 a, .int .i64 n] 51)).cell (p := ⟨b, 0, none⟩) hlt |>.trans c0
  by_cases h1 : 1 ≤ n
  · have d1 : decide (1 ≤ n) = true := decide_eq_true h1
    by_cases h2 : (f : Int) ≤ a
    · have d2 : decide ((f : Int) ≤ a) = true := decide_eq_true h2
      by_cases h3 : a < (t : Int)
      · have d3 : decide (a < (t : Int)) = true := decide_eq_true h3
        have hw : IntKind.i64.wrap ((t : Int) - a) = (t : Int) - a := by rw [IntKind.wrap_i64]; omega
        have hr2 : r = decide (n ≤ (t : Int) - a) := by
          rw [← hr]
          unfold withinB
          simp [h1, h2, h3]
        have HR := Lib.hid hr2
        clear hr hr2
        go_enter Tryz.func70, Tryz.ntmps70
        go_wp2_with fail
        go_quiet (fail)
        go_wp2_with fail
        go_ret
        rw [HR.out]
        exact ⟨rfl, pw_below_drewN HB.out _⟩
      · have d3 : decide (a < (t : Int)) = false := decide_eq_false h3
        have hr2 : r = false := by rw [← hr]; exact decide_eq_false (fun h => h3 h.2.2.1)
        have HR := Lib.hid hr2
        clear hr hr2
        go_enter Tryz.func70, Tryz.ntmps70
        go_wp2_with fail
        go_quiet (fail)
        go_wp2_with fail
        go_ret
        rw [HR.out]
        exact ⟨rfl, pw_below_drewN HB.out _⟩
    · have d2 : decide ((f : Int) ≤ a) = false := decide_eq_false h2
      have hr2 : r = false := by rw [← hr]; exact decide_eq_false (fun h => h2 h.2.1)
      have HR := Lib.hid hr2
      clear hr hr2
      go_enter Tryz.func70, Tryz.ntmps70
      go_wp2_with fail
      go_quiet (fail)
      go_wp2_with fail
      go_ret
      rw [HR.out]
      exact ⟨rfl, pw_below_drewN HB.out _⟩
  · have d1 : decide (1 ≤ n) = false := decide_eq_false h1
    have hr2 : r = false := by rw [← hr]; exact decide_eq_false (fun h => h1 h.1)
    have HR := Lib.hid hr2
    clear hr hr2
    go_enter Tryz.func70, Tryz.ntmps70
    go_wp2_with fail
    go_quiet (fail)
    go_wp2_with fail
    go_ret
    rw [HR.out]
    exact ⟨rfl, pw_below_drewN HB.out _⟩
end Go.Proofs.YtbcamfbbooggfaaGreat.F
end

section
/- A part is cut out of a run of a map. -/
set_option linter.unusedVariables false
set_option linter.unusedSimpArgs false
namespace Go.Proofs.YtbcamfbbooggfaaGreat.F
open Go.RowKit Go.Proofs.YtbcamfbbooggfaaGreatW.PrintWords

/-- A map in a world. -/
def EM (W : World) (base b f t : Nat) (l : List Rn) : Prop := ∃ v, EMb W b f t v ∧ OR W base v l ∧ (l = [] → v = .slice none 0 0)
theorem or_some {W : World} {base : Nat} {l : List Rn} {v : Value} (h : OR W base v l) (hp : 0 < l.length) : ∃ g c, v = .slice (some ⟨g, 0, none⟩) l.length c ∧ base ≤ g ∧ l.length ≤ c := by
  rcases h.2 with ⟨e, h0⟩ | ⟨g, cap, cur, e, hb, _, hc, _⟩
  · omega
  · exact ⟨g, cap, e, hb, hc⟩
/-- The two parts that may be left of a run. -/
def twoP (r : Rn) (a n : Nat) : List Rn := [(r.1, a - r.1), (a + n, r.1 + r.2 - (a + n))]
def leftP (r : Rn) (a n j : Nat) : List Rn := ((twoP r a n).take j).filter (fun x => decide (0 < x.2))
theorem leftP_two (r : Rn) (a n : Nat) : leftP r a n 2 = pieces r a n := by
  unfold pieces leftP twoP
  show List.filter _ [_, _] = _
  by_cases h1 : r.1 < a <;> by_cases h2 : a + n < r.1 + r.2
  · rw [if_pos h1, if_pos h2, List.filter_cons_of_pos (by simp; omega), List.filter_cons_of_pos (by simp; omega), List.filter_nil]; rfl
  · rw [if_pos h1, if_neg h2, List.filter_cons_of_pos (by simp; omega), List.filter_cons_of_neg (by simp; omega), List.filter_nil]; rfl
  · rw [if_neg h1, if_pos h2, List.filter_cons_of_neg (by simp; omega), List.filter_cons_of_pos (by simp; omega), List.filter_nil]; rfl
  · rw [if_neg h1, if_neg h2, List.filter_cons_of_neg (by simp; omega), List.filter_cons_of_neg (by simp; omega), List.filter_nil]; rfl
theorem leftP_succ (r : Rn) (a n j : Nat) (hj : j < 2) : leftP r a n (j + 1) = leftP r a n j ++ (if 0 < ((twoP r a n)[j]'(by simpa [twoP] using hj)).2 then [(twoP r a n)[j]'(by simpa [twoP] using hj)] else []) := by
  unfold leftP
  rw [List.take_succ_eq_append_getElem (by simpa [twoP] using hj), List.filter_append]
  congr 1
  split
  · rename_i h; rw [List.filter_cons_of_pos (by simpa using h)]; rfl
  · rename_i h; rw [List.filter_cons_of_neg (by simpa using h)]; rfl
theorem leftP_len (r : Rn) (a n j : Nat) : (leftP r a n j).length ≤ 2 := by
  unfold leftP
  refine Nat.le_trans (List.length_filter_le _ _) ?_
  rw [List.length_take]
  simp [twoP]
  omega
/-- 'runs[m:]'. -/
theorem RU.cut (g n c m : Nat) (hm : m ≤ n) : ∃ A' : Option Addr, (∀ W : World, (Instr.slice 86 (.slice (some ⟨g, 0, none⟩) n c) (some (.int .i64 (m : Int))) none none).run Tryz.prog W = .ok (.slice A' (n - m) (c - m)) W) ∧
    ∀ (W : World) (l : List Rn), l.length = n → n ≤ c → RU W (some ⟨g, 0, none⟩) l → RU W A' (l.drop m) := by
  obtain ⟨i0, hi0, hz0, hz1, hz2⟩ := info_parts info_run
  have hel : Program.elem Tryz.prog 86 = 51 := by simp [Program.elem, Tryz.underlying86]
  have hu : Tryz.prog.underlying 86 = some (.slice (Program.elem Tryz.prog 86)) := by rw [hel]; exact Tryz.underlying86
  refine ⟨if c = m then some ⟨g, 0, none⟩ else some ⟨g, m * 2, none⟩, fun W => ?_, fun W l hl hc h => ?_⟩
  · rw [run_slice_l W 86 (some ⟨g, 0, none⟩) n c hu .i64 (m : Int) (Int.natCast_nonneg _) (by omega), hel]
    by_cases hcm : c = m <;> simp [sizeOf, typeInfo, hi0, hz1, sliced, Result.andThen, hcm, Addr.add_lit]
  · refine ⟨by have := h.1; rw [List.length_drop]; omega, fun hp => ?_⟩
    rw [List.length_drop] at hp
    rw [if_neg (by omega)]
    obtain ⟨g', o', e, hg, hcell⟩ := h.2 (by omega)
    cases e
    refine ⟨g, m * 2, rfl, hg, fun j u hu => ?_⟩
    rw [← flatR_drop, List.getElem?_drop] at hu
    have := hcell _ u hu
    rwa [Nat.zero_add] at this
theorem RU.takeN {W : World} {g : Nat} {l : List Rn} (h : RU W (some ⟨g, 0, none⟩) l) (m : Nat) : RU W (some ⟨g, 0, none⟩) (l.take m) := by
  refine ⟨by have := h.1; rw [List.length_take]; omega, fun hp => ?_⟩
  rw [List.length_take] at hp
  obtain ⟨g', o', e, hg, hcell⟩ := h.2 (by omega)
  cases e
  refine ⟨g, 0, rfl, hg, fun j u hu => hcell j u ?_⟩
  rw [← flatR_take, List.getElem?_take] at hu
  split at hu
  · exact hu
  · cases hu
set_option maxRecDepth 20000 in
set_option maxHeartbeats 8000000 in
theorem cut_c (base b f t : Nat) (l : List Rn) (i a n : Nat) (w : World) (hm : EM w base b f t l) (hb : b < w.heap.size) (hi : i < l.length) (h1 : (l.getD i (0, 0)).1 ≤ a) (h2 : a + n ≤ (l.getD i (0, 0)).1 + (l.getD i (0, 0)).2) (hn : ∀ r ∈ l, r.1 + r.2 ≤ 5000) (hl : l.length ≤ 10000) :
    Calls Tryz.prog 68 #[.pointer (some ⟨b, 0, none⟩), .int .i64 i, .agg #[.int .i64 a, .int .i64 n]] w fun e w' => e = .returned (.tuple #[]) ∧ EM w' w.heap.size b f t (cutL l i a n) ∧ Gr (fun k => k = b) w w' := by
  obtain ⟨v, hmb, ho, hnil⟩ := hm
  obtain ⟨g, c, e, hbg, hcl⟩ := or_some ho (by omega)
  subst e
  obtain ⟨A', c', e, hcc, hr⟩ := ho.reads
  cases e
  obtain ⟨g', o', eA, hg, a1, a2⟩ := hr.at i hi
  cases eA
  rw [show l.getD i (0, 0) = l[i] by simp [List.getD_eq_getElem?_getD, hi]] at h1 h2
  have b1 := hn _ (List.getElem_mem hi)
  have hcut : cutL l i a n = l.take i ++ pieces l[i] a n ++ l.drop (i + 1) := by unfold cutL; rw [show l.getD i (0, 0) = l[i] by simp [List.getD_eq_getElem?_getD, hi]]
  obtain ⟨r, hrr⟩ : ∃ r, l[i] = r := ⟨_, rfl⟩
  rw [hrr] at a1 a2 h1 h2 b1 hcut
  simp only [Nat.zero_add] at a1 a2
  have c2 := hmb.c2
  have i0 : (0 : Int) ≤ (i : Int) := by omega
  have i1 : (i : Int) < (l.length : Int) := by omega
  have i2 : (i : Int) ≤ (c : Int) := by omega
  have n0 : (l.length : Int) ≤ 10000 := by omega
  have hne : ¬ (w.heap.size = b) := by omega
  have hne2 : ¬ (w.heap.size = g) := by omega
  obtain ⟨x1, hx1⟩ : ∃ x, r.1 = x := ⟨_, rfl⟩
  obtain ⟨x2, hx2⟩ : ∃ x, r.2 = x := ⟨_, rfl⟩
  rw [hx1] at a1 h1 h2 b1
  rw [hx2] at a2 h2 b1
  have HR := Lib.hid (show r = (x1, x2) from Prod.ext hx1 hx2)
  have k1 : (x1 : Int) ≤ (a : Int) := by omega
  have k2 : (a : Int) + n ≤ (x1 : Int) + x2 := by omega
  have k3 : (x1 : Int) + x2 ≤ 5000 := by omega
  have HM := Lib.hid hmb
  have HO := Lib.hid ho
  have HRU := Lib.hid hr
  have HCUT := Lib.hid hcut
  clear hmb ho hr hcut hrr hx1 hx2 hnil hn hcc
  go_enter Tryz.func68, Tryz.ntmps68
  go_wp2_with fail
  have hw3 : ∃ W3, ((w.alloc (.cells #[.int .i64 (a : Nat), .int .i64 (n : Nat)] 51)).alloc (.cells #[.int .i64 (x1 : Nat), .int .i64 (x2 : Nat)] 51)).alloc (.cells #[.int .i64 (x1 : Nat), .int .i64 ((a : Int) - x1), .int .i64 ((a : Int) + n), .int .i64 ((x1 : Int) + x2 - a - n)] 51) = W3 := ⟨_, rfl⟩
  obtain ⟨W3, hW3⟩ := hw3
  have hs3 : W3.heap.size = w.heap.size + 3 := by rw [← hW3]; simp
  have hb3 : Below w.heap.size w W3 := by rw [← hW3]; exact (((Below.refl _ _).alloc (Nat.le_refl _) _).alloc (by simp) _).alloc (by simp; omega) _
  have hg3 : W3.heap[w.heap.size + 1 + 1]? = some (.cells (flatR (twoP r a n)).toArray 51 (0, 0)) := by
    rw [← hW3, HR.out]
    have e1 : ((a - x1 : Nat) : Int) = (a : Int) - x1 := by omega
    have e2 : ((a + n : Nat) : Int) = (a : Int) + n := by omega
    have e3 : ((x1 + x2 - (a + n) : Nat) : Int) = (x1 : Int) + x2 - a - n := by omega
    have h := heap_alloc_new ((w.alloc (.cells #[.int .i64 (a : Nat), .int .i64 (n : Nat)] 51)).alloc (.cells #[.int .i64 (x1 : Nat), .int .i64 (x2 : Nat)] 51)) (.cells #[.int .i64 (x1 : Nat), .int .i64 ((a : Int) - x1), .int .i64 ((a : Int) + n), .int .i64 ((x1 : Int) + x2 - a - n)] 51)
    simp only [World.size_alloc] at h
    rw [h]
    simp [twoP, flatR, e1, e2, e3]
  have hru : RU W3 (some ⟨w.heap.size + 1 + 1, 0, none⟩) (twoP r a n) := by
    refine ⟨by simp [twoP], fun _ => ⟨_, 0, rfl, by omega, fun j u hu => ?_⟩⟩
    rw [Nat.zero_add, cell_of_row _ _ _ _ _ _ hg3]
    simpa using hu
  have hol : OR W3 (w.heap.size + 3) (.slice none 0 0) (leftP r a n 0) := OR.nil _ _
  have HW3 := Lib.hid hW3
  have HB3 := Lib.hid hb3
  have HRU2 := Lib.hid hru
  have HOL := Lib.hid hol
  clear hW3 hb3 hg3 hru hol
  rw [HW3.out]
  go_loopw [7, 44] (fun vl vi W => ∃ j : Nat, j ≤ 2 ∧ vi = .int .i64 j ∧ OR W (w.heap.size + 3) vl (leftP r a n j) ∧ Below W3.heap.size W3 W) (fun _ vi _ => 2 - (intOf vi).toNat)
  case atStart => exact ⟨0, by omega, rfl, HOL.out, Below.refl _ _⟩
  case round =>
    obtain ⟨j, hj, rfl, hol, hB⟩ := hrel
    have HOL2 := Lib.hid hol
    have HB := Lib.hid hB
    have hsz := hB.size
    clear hol hB
    by_cases hlt : j < 2
    · have hd : decide ((j : Int) < 2) = true := decide_eq_true (by omega)
      have hst := leftP_succ r a n j hlt
      have htl : j < (twoP r a n).length := hlt
      obtain ⟨g5, o5, e5, _, d1, d2⟩ := (HRU2.out.below HB.out).at j htl
      cases e5
      simp only [Nat.zero_add] at d1 d2
      have hbd : ((twoP r a n)[j].1 : Nat) ≤ 10000 ∧ ((twoP r a n)[j].2 : Nat) ≤ 10000 := by
        rw [HR.out]
        have : j = 0 ∨ j = 1 := by omega
        rcases this with rfl | rfl <;> simp [twoP] <;> omega
      obtain ⟨⟨p, q⟩, hpq⟩ : ∃ x, (twoP r a n)[j] = x := ⟨_, rfl⟩
      rw [hpq] at d1 d2 hbd hst
      dsimp only at d1 d2 hbd hst
      have HST := Lib.hid hst
      have j0 : (0 : Int) ≤ (j : Int) := by omega
      have j1 : (j : Int) < 2 := by omega
      have hgl : w.heap.size + 1 + 1 < wr.heap.size := by omega
      clear hpq hst
      by_cases hq : 0 < q
      · have dq : decide ((0 : Int) < (q : Int)) = true := decide_eq_true (by omega)
        have hb1 : Below wr.heap.size wr ((wr.alloc (.cells #[.int .i64 (p : Nat), .int .i64 (q : Nat)] 51)).alloc (.cells #[.int .i64 (p : Nat), .int .i64 (q : Nat)] 51)) := ((Below.refl _ _).alloc (Nat.le_refl _) _).alloc (by simp) _
        have hone := RU.one (W := ((wr.alloc (.cells #[.int .i64 (p : Nat), .int .i64 (q : Nat)] 51)).alloc (.cells #[.int .i64 (p : Nat), .int .i64 (q : Nat)] 51))) (vb := wr.heap.size + 1) (r := (p, q)) (by
          have h := heap_alloc_new (wr.alloc (.cells #[.int .i64 (p : Nat), .int .i64 (q : Nat)] 51)) (.cells #[.int .i64 (p : Nat), .int .i64 (q : Nat)] 51)
          simp only [World.size_alloc] at h
          exact h)
        have ho1 := HOL2.out.below hb1
        have HB1 := Lib.hid hb1
        have HONE := Lib.hid hone
        have HO1 := Lib.hid ho1
        have hll := leftP_len r a n j
        have hs1 : w.heap.size + 3 ≤ ((wr.alloc (.cells #[.int .i64 (p : Nat), .int .i64 (q : Nat)] 51)).alloc (.cells #[.int .i64 (p : Nat), .int .i64 (q : Nat)] 51)).heap.size := by simp; omega
        clear hb1 hone ho1
        obtain ⟨wo, rfl⟩ : ∃ wo : World, wo = wr := ⟨_, rfl⟩
        go_wp2_with (at_builtin; refine append_RU (w.heap.size + 3) rfl _ _ rfl _ _ [(p, q)] _ 1 rfl rfl HO1.out HONE.out hs1 (by simp; omega) ?_; intro v6 w6 ho6 hg6 hv6)
        have hb6 : Below W3.heap.size W3 w6 := (HB.out.trans (HB1.out.mono hsz)).grown hg6 (by simp; omega) (fun k hk => by have := own_base HO1.out k hk; omega)
        have ho6' : OR w6 (w.heap.size + 3) v6 (leftP r a n (j + 1)) := by rw [HST.out, if_pos hq]; exact ho6
        have HO6 := Lib.hid ho6'
        have HB6 := Lib.hid hb6
        clear ho6 hg6 hv6 hb6 ho6'
        go_wp2_with fail
        exact ⟨⟨j + 1, by omega, by go_num, HO6.out, HB6.out⟩, by simp [intOf]; omega⟩
      · have dq : decide ((0 : Int) < (q : Int)) = false := decide_eq_false (by omega)
        have hb1 : Below wr.heap.size wr (wr.alloc (.cells #[.int .i64 (p : Nat), .int .i64 (q : Nat)] 51)) := (Below.refl _ _).alloc (Nat.le_refl _) _
        have ho1 := HOL2.out.below hb1
        have ho6' := ho1
        rw [show leftP r a n j = leftP r a n (j + 1) by rw [HST.out, if_neg hq, List.append_nil]] at ho6'
        have HO6 := Lib.hid ho6'
        have HB6 := Lib.hid (HB.out.trans (hb1.mono hsz))
        clear hb1 ho1 ho6'
        go_wp2_with fail
        exact ⟨⟨j + 1, by omega, by go_num, HO6.out, HB6.out⟩, by simp [intOf]; omega⟩
    · have hd : decide ((j : Int) < 2) = false := decide_eq_false (by omega)
      obtain rfl : j = 2 := by omega
      have hol := HOL2.out
      rw [leftP_two] at hol
      obtain ⟨Al, cl, el, hcl2, hrl⟩ := hol.reads
      subst el
      have hpl : (pieces r a n).length ≤ 2 := by rw [← leftP_two]; exact leftP_len r a n 2
      obtain ⟨L, hL⟩ : ∃ L, pieces r a n = L := ⟨_, rfl⟩
      rw [hL] at hol hrl hpl hcl2 ⊢
      have HLL := Lib.hid hL
      have HRL := Lib.hid hrl
      have hmr : EMb wr b f t (.slice (some ⟨g, 0, none⟩) l.length c) := HM.out.move ((HB.out.block b (by omega)).trans (HB3.out.block b hb))
      have hor : OR wr base (.slice (some ⟨g, 0, none⟩) l.length c) l := (HO.out.below HB3.out).below HB.out
      have c2r := hmr.c2
      have f2r := hmr.fr 2
      have HMR := Lib.hid hmr
      have HOR := Lib.hid hor
      clear hL hrl hmr hor hol HOL2
      go_wp2_with fail
      obtain ⟨A3, hA3, hr3⟩ := RU.cut g l.length c (i + 1) (by omega)
      have hru0 : RU wr (some ⟨g, 0, none⟩) l := (HRU.out.below HB3.out).below HB.out
      have hr3' := hr3 wr l rfl hcl hru0
      have hb4 : Below wr.heap.size wr (wr.drew.alloc (.cells #[.slice (some ⟨g, 0, none⟩) i i, .slice Al L.length cl, .slice A3 (l.length - (i + 1)) (c - (i + 1))] 86)) := (Below.refl _ _).drew.alloc (Nat.le_refl _) _
      have hg4 := heap_alloc_new wr.drew (.cells #[.slice (some ⟨g, 0, none⟩) i i, .slice Al L.length cl, .slice A3 (l.length - (i + 1)) (c - (i + 1))] 86)
      have hlt : (l.take i).length = i := by rw [List.length_take]; omega
      have hld : (l.drop (i + 1)).length = l.length - (i + 1) := by rw [List.length_drop]
      have hss : esrs [(some ⟨g, 0, none⟩, i, l.take i), (Al, cl, L), (A3, c - (i + 1), l.drop (i + 1))] = cutL l i a n := by
        rw [HCUT.out, HLL.out]
        simp [esrs]
      have hsl : (cutL l i a n).length ≤ 100000 := by
        rw [HCUT.out, HLL.out]
        simp
        omega
      have hcc := Concat_c wr.heap.size 3 [(some ⟨g, 0, none⟩, i, l.take i), (Al, cl, L), (A3, c - (i + 1), l.drop (i + 1))] (wr.drew.alloc (.cells #[.slice (some ⟨g, 0, none⟩) i i, .slice Al L.length cl, .slice A3 (l.length - (i + 1)) (c - (i + 1))] 86))
        (by simp) (fun k hk => by
          rw [cell_of_row _ wr.heap.size _ _ _ _ hg4]
          have : k = 0 ∨ k = 1 ∨ k = 2 := by simp at hk; omega
          rcases this with rfl | rfl | rfl <;> simp [esrv, hlt, hld]) (fun x hx => by
          simp only [List.mem_cons, List.not_mem_nil, or_false] at hx
          rcases hx with rfl | rfl | rfl
          · exact (RU.takeN hru0 i).below hb4
          · exact HRL.out.below hb4
          · exact hr3'.below hb4) (by rw [hss]; exact hsl) (by simp)
      rw [hss] at hcc
      have HCC := Lib.hid hcc
      have HB4 := Lib.hid hb4
      have hrun3 : ∀ W : World, (Instr.slice 86 (.slice (some ⟨g, 0, none⟩) l.length c) (some (.int .i64 ((i : Int) + 1))) none none).run Tryz.prog W = .ok (.slice A3 (l.length - (i + 1)) (c - (i + 1))) W := fun W => hA3 W
      have wr1 : IntKind.i64.wrap ((i : Int) + 1) = (i : Int) + 1 := by rw [IntKind.wrap_i64]; omega
      have KB : ∀ w5 : World, Below (wr.drew.alloc (.cells #[.slice (some ⟨g, 0, none⟩) i i, .slice Al L.length cl, .slice A3 (l.length - (i + 1)) (c - (i + 1))] 86)).heap.size (wr.drew.alloc (.cells #[.slice (some ⟨g, 0, none⟩) i i, .slice Al L.length cl, .slice A3 (l.length - (i + 1)) (c - (i + 1))] 86)) w5 → EMb w5 b f t (.slice (some ⟨g, 0, none⟩) l.length c) := fun w5 h5 =>
        (HMR.out.move (HB4.out.block b (by omega))).move (h5.block b (by simp; omega))
      have HKB := Lib.hid KB
      clear hcc hb4 hg4 hr3 hr3' hA3 hru0 hss hsl hlt hld KB
      refine wp_region_late [4, 12] (fun w' => w'.cell? ⟨b, 2, none⟩ = some (.slice (some ⟨g, 0, none⟩) l.length c)) (by kernel_rfl) c2r (fun hT => ?_)
      refine WL.take (i := 0) (v := ?_) rfl (by kernel_rfl) (by kernel_rfl) (by kernel_rfl) (by kernel_rfl) (fun _ _ _ h => h) (Or.inl ⟨by rfl, ?_⟩) (by assumption) ?_
      rotate_left 1
      · (intro w' hSw; (try (replace hSw := hSw (by decide); dsimp only at hSw)); go_split_ands; go_simp; try with_reducible rfl)
      simp only [Act.put, List.setIfInBounds_toArray, List.set_cons_zero, List.set_cons_succ]
      refine WL.take (i := 1) (v := ?_) rfl (by kernel_rfl) (by kernel_rfl) (by kernel_rfl) (by kernel_rfl) (fun _ _ _ h => h) (Or.inl ⟨by rfl, ?_⟩) (by assumption) ?_
      rotate_left 1
      · (intro w' hSw; (try (replace hSw := hSw (by decide); dsimp only at hSw)); go_split_ands; go_simp; try with_reducible rfl)
      simp only [Act.put, List.setIfInBounds_toArray, List.set_cons_zero, List.set_cons_succ]
      refine WL.take (i := 2) (v := ?_) rfl (by kernel_rfl) (by kernel_rfl) (by kernel_rfl) (by kernel_rfl) (fun _ _ _ h => h) (Or.inl ⟨by rfl, ?_⟩) (by assumption) ?_
      rotate_left 1
      · (intro w' hSw; (try (replace hSw := hSw (by decide); dsimp only at hSw)); go_split_ands; go_simp; try with_reducible rfl)
      simp only [Act.put, List.setIfInBounds_toArray, List.set_cons_zero, List.set_cons_succ]
      refine WL.take (i := 3) (v := ?_) rfl (by kernel_rfl) (by kernel_rfl) (by kernel_rfl) (by kernel_rfl) (fun _ _ _ h => h) (Or.inl ⟨by rfl, ?_⟩) (by assumption) ?_
      rotate_left 1
      · (intro w' hSw; (try (replace hSw := hSw (by decide); dsimp only at hSw)); go_split_ands; go_simp; try with_reducible rfl)
      simp only [Act.put, List.setIfInBounds_toArray, List.set_cons_zero, List.set_cons_succ]
      refine WL.take (i := 4) (v := ?_) rfl (by kernel_rfl) (by kernel_rfl) (by kernel_rfl) (by kernel_rfl) (fun _ _ _ h => h) (Or.inl ⟨by rfl, ?_⟩) (by assumption) ?_
      rotate_left 1
      · (intro w' hSw; (try (replace hSw := hSw (by decide); dsimp only at hSw)); go_split_ands; go_simp; try with_reducible rfl)
      simp only [Act.put, List.setIfInBounds_toArray, List.set_cons_zero, List.set_cons_succ]
      refine WL.take (i := 5) (v := ?_) rfl (by kernel_rfl) (by kernel_rfl) (by kernel_rfl) (by kernel_rfl) (fun _ _ _ h => h) (Or.inl ⟨by rfl, ?_⟩) (by assumption) ?_
      rotate_left 1
      · (intro w' hSw; (try (replace hSw := hSw (by decide); dsimp only at hSw)); go_split_ands; go_simp; try with_reducible rfl)
      simp only [Act.put, List.setIfInBounds_toArray, List.set_cons_zero, List.set_cons_succ]
      refine WL.take (i := 6) (v := ?_) rfl (by kernel_rfl) (by kernel_rfl) (by kernel_rfl) (by kernel_rfl) (fun _ _ _ h => h) (Or.inl ⟨by rfl, ?_⟩) (by assumption) ?_
      rotate_left 1
      · (intro w' hSw; (try (replace hSw := hSw (by decide); dsimp only at hSw)); go_split_ands; go_simp; try with_reducible rfl)
      simp only [Act.put, List.setIfInBounds_toArray, List.set_cons_zero, List.set_cons_succ]
      refine WL.take (i := 7) (v := ?_) rfl (by kernel_rfl) (by kernel_rfl) (by kernel_rfl) (by kernel_rfl) (fun _ _ _ h => h) (Or.inl ⟨by rfl, ?_⟩) (by assumption) ?_
      rotate_left 1
      · (intro w' hSw; (try (replace hSw := hSw (by decide); dsimp only at hSw)); go_split_ands; go_simp; try with_reducible rfl)
      simp only [Act.put, List.setIfInBounds_toArray, List.set_cons_zero, List.set_cons_succ]
      refine WL.take (i := 8) (v := ?_) rfl (by kernel_rfl) (by kernel_rfl) (by kernel_rfl) (by kernel_rfl) (fun _ _ _ h => h) (Or.inl ⟨by rfl, ?_⟩) (by assumption) ?_
      rotate_left 1
      · (intro w' hSw; (try (replace hSw := hSw (by decide); dsimp only at hSw)); go_split_ands; go_simp; try with_reducible rfl)
      simp only [Act.put, List.setIfInBounds_toArray, List.set_cons_zero, List.set_cons_succ]
      refine WL.take (i := 9) (v := ?_) rfl (by kernel_rfl) (by kernel_rfl) (by kernel_rfl) (by kernel_rfl) (fun _ _ _ h => h) (Or.inl ⟨by rfl, ?_⟩) (by assumption) ?_
      rotate_left 1
      · (intro w' hSw; (try (replace hSw := hSw (by decide); dsimp only at hSw)); go_split_ands; go_simp; try with_reducible rfl)
      simp only [Act.put, List.setIfInBounds_toArray, List.set_cons_zero, List.set_cons_succ]
      refine WL.take (i := 10) (v := ?_) rfl (by kernel_rfl) (by kernel_rfl) (by kernel_rfl) (by kernel_rfl) (fun _ _ _ h => h) (Or.inl ⟨by rfl, ?_⟩) (by assumption) ?_
      rotate_left 1
      · (intro w' hSw; (try (replace hSw := hSw (by decide); dsimp only at hSw)); go_split_ands; go_simp; try with_reducible rfl)
      simp only [Act.put, List.setIfInBounds_toArray, List.set_cons_zero, List.set_cons_succ]
      refine WL.take (i := 11) (v := ?_) rfl (by kernel_rfl) (by kernel_rfl) (by kernel_rfl) (by kernel_rfl) (fun _ _ _ h => h) (Or.inl ⟨by rfl, ?_⟩) (by assumption) ?_
      rotate_left 1
      · (intro w' hSw; (try (replace hSw := hSw (by decide); dsimp only at hSw)); go_split_ands; go_simp; try with_reducible rfl)
      simp only [Act.put, List.setIfInBounds_toArray, List.set_cons_zero, List.set_cons_succ]
      refine WL.take (i := 12) (v := ?_) rfl (by kernel_rfl) (by kernel_rfl) (by kernel_rfl) (by kernel_rfl) (fun _ _ _ h => h) (Or.inl ⟨by rfl, ?_⟩) (by assumption) ?_
      rotate_left 1
      · (intro w' hSw; (try (replace hSw := hSw (by decide); dsimp only at hSw)); go_split_ands; go_simp; try with_reducible rfl)
      simp only [Act.put, List.setIfInBounds_toArray, List.set_cons_zero, List.set_cons_succ]
      refine WL.take (i := 13) (v := ?_) rfl (by kernel_rfl) (by kernel_rfl) (by kernel_rfl) (by kernel_rfl) (fun _ _ _ h => h) (Or.inl ⟨by rfl, ?_⟩) (by assumption) ?_
      rotate_left 1
      · (intro w' hSw; (try (replace hSw := hSw (by decide); dsimp only at hSw)); go_split_ands; go_simp; try with_reducible rfl)
      simp only [Act.put, List.setIfInBounds_toArray, List.set_cons_zero, List.set_cons_succ]
      refine WL.take (i := 14) (v := ?_) rfl (by kernel_rfl) (by kernel_rfl) (by kernel_rfl) (by kernel_rfl) (fun _ _ _ h => h) (Or.inl ⟨by rfl, ?_⟩) (by assumption) ?_
      rotate_left 1
      · (intro w' hSw; (try (replace hSw := hSw (by decide); dsimp only at hSw)); go_split_ands; go_simp; try with_reducible rfl)
      simp only [Act.put, List.setIfInBounds_toArray, List.set_cons_zero, List.set_cons_succ]
      refine WL.take (i := 15) (v := ?_) rfl (by kernel_rfl) (by kernel_rfl) (by kernel_rfl) (by kernel_rfl) (fun _ _ _ h => h) (Or.inl ⟨by rfl, ?_⟩) (by assumption) ?_
      rotate_left 1
      · (intro w' hSw; (try (replace hSw := hSw (by decide); dsimp only at hSw)); go_split_ands; go_simp; try with_reducible rfl)
      simp only [Act.put, List.setIfInBounds_toArray, List.set_cons_zero, List.set_cons_succ]
      refine WL.late (i := 16) (by kernel_rfl) rfl (by kernel_rfl) (fun K hK => ?_)
      go_simp
      refine hK.out _ _ ?_
      clear hK K
      refine WL.late (i := 17) (by kernel_rfl) rfl (by kernel_rfl) (fun K hK => ?_)
      go_simp
      go_at_call 111
      refine HCC.out.mono ?_
      rintro e w5 ⟨v5, rfl, ho5, hn5, hb5⟩
      have KM := HKB.out w5 hb5
      have K30 := KM.c2
      have K31 := KM.fr 2
      obtain ⟨A5, c5, e5, _, _⟩ := ho5.reads
      subst e5
      go_simp
      refine hK.out _ _ ?_
      clear hK K
      refine WL.late (i := 18) (by kernel_rfl) rfl (by kernel_rfl) (fun K hK => ?_)
      go_simp
      refine hK.out _ _ ?_
      clear hK K
      refine WL.late (i := 19) (by kernel_rfl) rfl (by kernel_rfl) (fun K hK => ?_)
      go_simp
      refine hK.out _ _ ?_
      clear hK K
      refine WL.late (i := 20) (by kernel_rfl) rfl (by kernel_rfl) (fun K hK => ?_)
      go_simp
      refine hK.out _ _ ?_
      clear hK K
      refine WL.done (by kernel_rfl) ?_ _
      have hb5' : Below w.heap.size w w5 := ((HB3.out.trans (HB.out.mono (by omega))).trans (HB4.out.mono (by omega))).trans (hb5.mono (by simp; omega))
      have ho5' : OR w5 w.heap.size (.slice A5 (cutL l i a n).length c5) (cutL l i a n) := ho5.lower (by simp; omega)
      have hgr : Gr (fun k => k = b) w (w5.setCell ⟨b, 2, none⟩ (.slice A5 (cutL l i a n).length c5)) := (Gr.of_below _ hb5').trans (Gr.setCell (S := fun k => k = b) w5 ⟨b, 2, none⟩ _ rfl) (fun _ _ h => h)
      have hem : EM (w5.setCell ⟨b, 2, none⟩ (.slice A5 (cutL l i a n).length c5)) w.heap.size b f t (cutL l i a n) := by
        refine ⟨_, KM.set _, ho5'.move (fun k hk => heap_setCell_other _ _ _ _ (fun e => ?_)), fun h => hn5 h⟩
        have := (ho5'.typed k hk).1
        subst e
        exact absurd hb (by simp; omega)
      have HGR := Lib.hid hgr
      have HEM := Lib.hid hem
      clear hb5' ho5' hgr hem hn5 hb5 ho5 KM K30 K31 hrun3
      go_wp2_with fail
      go_end0
      exact ⟨rfl, HEM.out, HGR.out⟩
end Go.Proofs.YtbcamfbbooggfaaGreat.F
end

section
/- Maps are made; runs are taken and claimed. -/
set_option linter.unusedVariables false
set_option linter.unusedSimpArgs false
namespace Go.Proofs.YtbcamfbbooggfaaGreat.F
open Go.RowKit Go.Proofs.YtbcamfbbooggfaaGreatW.PrintWords

theorem EM.lower {W : World} {base base' b f t : Nat} {l : List Rn} (h : EM W base b f t l) (hb : base' ≤ base) : EM W base' b f t l := by
  obtain ⟨v, h1, h2, h3⟩ := h
  exact ⟨v, h1, h2.lower hb, h3⟩
theorem EM.move {W W' : World} {base b f t : Nat} {l : List Rn} (h : EM W base b f t l) (hm : ∀ k, k < W.heap.size → (k = b ∨ (base ≤ k ∧ ∃ cs, W.heap[k]? = some (.cells cs 51 (0, 0)))) → W'.heap[k]? = W.heap[k]?) : EM W' base b f t l := by
  obtain ⟨v, h1, h2, h3⟩ := h
  exact ⟨v, h1.move (hm b h1.lt (.inl rfl)), h2.move (fun k hk => by
    obtain ⟨q1, q2, q3⟩ := h2.typed k hk
    exact hm k q2 (.inr ⟨q1, q3⟩)), h3⟩
theorem EM.below {W W' : World} {base b f t : Nat} {l : List Rn} (h : EM W base b f t l) (hb : Below W.heap.size W W') : EM W' base b f t l := h.move (fun k hk _ => hb.block k hk)
theorem EM.lt {W : World} {base b f t : Nat} {l : List Rn} (h : EM W base b f t l) : b < W.heap.size := by obtain ⟨v, h1, _⟩ := h; exact h1.lt
set_option maxRecDepth 20000 in
set_option maxHeartbeats 4000000 in
theorem eNew_c (f t : Nat) (w : World) (h : f ≤ t) (ht : t ≤ 4096) :
    Calls Tryz.prog 7 #[.int .i64 f, .int .i64 t] w fun e w' => ∃ b, e = .returned (.tuple #[.pointer (some ⟨b, 0, none⟩), .int .i64 0]) ∧ w.heap.size ≤ b ∧ EM w' w.heap.size b f t (if 0 < t - f then [(f, t - f)] else []) ∧ Below w.heap.size w w' := by
  have d1 : decide ((f : Int) < 0) = false := decide_eq_false (by omega)
  have d2 : decide ((t : Int) < f) = false := decide_eq_false (by omega)
  have d2' : decide (t < f) = false := decide_eq_false (by omega)
  have d3 : decide ((4096 : Int) < t) = false := decide_eq_false (by omega)
  by_cases hlt : f < t
  · have d4 : decide ((f : Int) < t) = true := decide_eq_true (by omega)
    have d4' : decide (f < t) = true := decide_eq_true hlt
    rw [if_pos (by omega)]
    have hem : EM ((w.alloc (.cells #[.int .i64 (f : Nat), .int .i64 (t : Nat), .slice (some ⟨w.heap.size + 1, 0, none⟩) 1 1] 88)).alloc (.cells #[.int .i64 (f : Nat), .int .i64 ((t : Int) - f)] 51)) w.heap.size w.heap.size f t [(f, t - f)] := by
      have hg := heap_alloc_new (w.alloc (.cells #[.int .i64 (f : Nat), .int .i64 (t : Nat), .slice (some ⟨w.heap.size + 1, 0, none⟩) 1 1] 88)) (.cells #[.int .i64 (f : Nat), .int .i64 ((t : Int) - f)] 51)
      simp only [World.size_alloc] at hg
      exact ⟨_, (Below.heap_alloc _ _ _ (by simp)).trans (heap_alloc_new w _), OR.of_block (cur := [.int .i64 (f : Nat), .int .i64 ((t : Int) - f)]) hg (by omega) rfl (Nat.le_refl _) (by omega) rfl (by simp [flatR]; omega), fun h => by cases h⟩
    have hb : Below w.heap.size w ((w.alloc (.cells #[.int .i64 (f : Nat), .int .i64 (t : Nat), .slice (some ⟨w.heap.size + 1, 0, none⟩) 1 1] 88)).alloc (.cells #[.int .i64 (f : Nat), .int .i64 ((t : Int) - f)] 51)) :=
      ((Below.refl _ _).alloc (Nat.le_refl _) _).alloc (by simp) _
    have HEM := Lib.hid hem
    have HB := Lib.hid hb
    clear hem hb
    go_enter Tryz.func7, Tryz.ntmps7
    go_wp2_with fail
    go_ret2
    exact ⟨w.heap.size, rfl, Nat.le_refl _, HEM.out, HB.out⟩
  · have d4 : decide ((f : Int) < t) = false := decide_eq_false (by omega)
    have d4' : decide (f < t) = false := decide_eq_false hlt
    rw [if_neg (by omega)]
    have hem : EM (w.alloc (.cells #[.int .i64 (f : Nat), .int .i64 (t : Nat), .slice none 0 0] 88)) w.heap.size w.heap.size f t [] := ⟨_, heap_alloc_new w _, OR.nil _ _, fun _ => rfl⟩
    have hb : Below w.heap.size w (w.alloc (.cells #[.int .i64 (f : Nat), .int .i64 (t : Nat), .slice none 0 0] 88)) := (Below.refl _ _).alloc (Nat.le_refl _) _
    have HEM := Lib.hid hem
    have HB := Lib.hid hb
    clear hem hb
    go_enter Tryz.func7, Tryz.ntmps7
    go_wp2_with fail
    go_ret2
    exact ⟨w.heap.size, rfl, Nat.le_refl _, HEM.out, HB.out⟩
/-- What a Take answers, and what is left. -/
def takeF (l : List Rn) (n : Int) : Int × Int × List Rn :=
  if n < 1 then (0, 2, l) else
  match l.findIdx? (fun r => decide (n ≤ (r.2 : Int))) with
  | none => (0, 8, l)
  | some i => (((l.getD i (0, 0)).1 : Int), 0, cutL l i (l.getD i (0, 0)).1 n.toNat)
def TakeAns (base b f t : Nat) (x : Int × Int × List Rn) (w : World) (e : Ending) (w' : World) : Prop := e = .returned (.tuple #[.int .i64 x.1, .int .i64 x.2.1]) ∧ EM w' base b f t x.2.2 ∧ Gr (fun k => k = b) w w'
theorem idxR_find (p : Rn → Bool) (l : List Rn) : (idxR p l = -1 ∧ l.findIdx? p = none) ∨ ∃ i, ∃ h : i < l.length, idxR p l = (i : Nat) ∧ l.findIdx? p = some i ∧ p l[i] = true := by
  cases hf : l.findIdx? p with
  | none => exact .inl ⟨by unfold idxR; rw [hf], rfl⟩
  | some i =>
    obtain ⟨h1, h2, _⟩ := List.findIdx?_eq_some_iff_getElem.1 hf
    exact .inr ⟨i, h1, by unfold idxR; rw [hf], rfl, h2⟩
set_option maxRecDepth 20000 in
set_option maxHeartbeats 8000000 in
theorem Take_c (base b f t : Nat) (l : List Rn) (n : Int) (w : World) (hm : EM w base b f t l) (hbs : base ≤ w.heap.size) (hn : ∀ r ∈ l, r.1 + r.2 ≤ 4096) (hl : l.length ≤ 10000) :
    Calls Tryz.prog 32 #[.pointer (some ⟨b, 0, none⟩), .int .i64 n] w (TakeAns base b f t (takeF l n) w) := by
  have hb := hm.lt
  have hbox : Below w.heap.size w (w.alloc (.cells #[.int .i64 n] 3)) := (Below.refl _ _).alloc (Nat.le_refl _) _
  have hmb := hm.below hbox
  by_cases h1 : n < 1
  · have d1 : decide (n < 1) = true := decide_eq_true h1
    have he : takeF l n = (0, 2, l) := if_pos h1
    rw [he]
    have HMB := Lib.hid hmb
    have HB := Lib.hid hbox
    clear hm hmb hbox hn he
    go_enter Tryz.func32, Tryz.ntmps32
    go_wp2_with fail
    go_ret2
    exact ⟨rfl, HMB.out, Gr.of_below _ HB.out⟩
  · have d1 : decide (n < 1) = false := decide_eq_false h1
    have hgn : (w.alloc (.cells #[.int .i64 n] 3)).heap[w.heap.size]? = some (.cells #[.int .i64 n] 3 (0, 0)) := heap_alloc_new w _
    obtain ⟨W1, hW1⟩ : ∃ W1, w.alloc (.cells #[.int .i64 n] 3) = W1 := ⟨_, rfl⟩
    rw [hW1] at hmb hbox hgn
    have hs1 : W1.heap.size = w.heap.size + 1 := by rw [← hW1]; simp
    obtain ⟨v, hme, ho, hnil⟩ := hmb
    obtain ⟨A, c, ev, hc, hr⟩ := ho.reads
    subst ev
    have c2 := hme.c2
    have hcn : W1.cell? ⟨w.heap.size, 0, none⟩ = some (.int .i64 n) := by rw [cell_of_row _ _ _ _ _ _ hgn]; rfl
    have hidx := IndexFunc_c A c 67 #[.pointer (some ⟨w.heap.size, 0, none⟩)] (fun r => decide (n ≤ (r.2 : Int))) l W1 hr hn (take_pred w.heap.size n W1 hcn) (fun _ _ => by kernel_rfl)
    have hg27 : ∀ args W, Sem.run Tryz.prog (callFunc 67 args) W = .ok (.enter 67 args) W := fun _ _ => by kernel_rfl
    have hem1 : EM W1 base b f t l := ⟨_, hme, ho, hnil⟩
    have HW1 := Lib.hid hW1
    have HEM1 := Lib.hid hem1
    have HBX := Lib.hid hbox
    have HIDX := Lib.hid hidx
    have HN := Lib.hid hn
    have hcase := idxR_find (fun r => decide (n ≤ (r.2 : Int))) l
    obtain ⟨q, hq⟩ : ∃ q, idxR (fun r => decide (n ≤ (r.2 : Int))) l = q := ⟨_, rfl⟩
    rw [hq] at HIDX hcase
    rcases hcase with ⟨rfl, hf⟩ | ⟨i, hi, rfl, hf, hp⟩
    · have he : takeF l n = (0, 8, l) := by unfold takeF; rw [if_neg h1, hf]
      rw [he]
      clear hm hme ho hnil hr hgn hW1 hem1 hbox hidx hn hq hf he
      go_enter Tryz.func32, Tryz.ntmps32
      go_wp2_with (rw [HW1.out])
      refine HIDX.out.mono ?_
      rintro e w2 ⟨rfl, hb2⟩
      have HB2 := Lib.hid hb2
      clear hb2
      go_wp2_with fail
      go_ret2
      exact ⟨rfl, HEM1.out.below HB2.out, Gr.of_below _ (HBX.out.trans (HB2.out.mono (by omega)))⟩
    · have hp := of_decide_eq_true hp
      have he : takeF l n = (((l[i].1 : Nat) : Int), 0, cutL l i l[i].1 n.toNat) := by
        unfold takeF
        rw [if_neg h1, hf]
        simp [List.getD_eq_getElem?_getD, hi]
      rw [he]
      have hgd : l.getD i (0, 0) = l[i] := by simp [List.getD_eq_getElem?_getD, hi]
      have hbd := hn _ (List.getElem_mem hi)
      obtain ⟨x, hx⟩ : ∃ x, l[i] = x := ⟨_, rfl⟩
      obtain ⟨m, rfl⟩ : ∃ m : Nat, n = m := ⟨n.toNat, by omega⟩
      rw [hx] at hp hgd hbd ⊢
      rw [show (m : Int).toNat = m from Int.toNat_natCast m]
      have hcut := fun W (h : EM W base b f t l) hb => cut_c base b f t l i x.1 m W h hb hi (by rw [hgd]; exact Nat.le_refl _) (by rw [hgd]; omega) (fun r hr => by have := hn r hr; omega) hl
      have hat := hr.at i hi
      rw [hx] at hat
      obtain ⟨x1, hx1⟩ : ∃ x1, x.1 = x1 := ⟨_, rfl⟩
      rw [hx1] at hcut hat ⊢
      obtain ⟨g, o, eA, hg, a1, _⟩ := hat
      subst eA
      have ho0 : o = 0 := by
        obtain ⟨g', c', e', _⟩ := or_some ho (by omega)
        cases e'
        rfl
      subst ho0
      simp only [Nat.zero_add] at a1
      have HCUT := Lib.hid hcut
      have HMB := Lib.hid hme
      have HRU := Lib.hid hr
      have i0 : (0 : Int) ≤ (i : Int) := by omega
      have i1 : (i : Int) < (l.length : Int) := by omega
      have i2 : decide ((i : Int) < 0) = false := decide_eq_false (by omega)
      clear hm hme ho hnil hr hgn hW1 hem1 hbox hidx hn hq hf he hcut hx hgd hp hbd hx1
      go_enter Tryz.func32, Tryz.ntmps32
      go_wp2_with (rw [HW1.out])
      refine HIDX.out.mono ?_
      rintro e w2 ⟨rfl, hb2⟩
      have c22 : w2.cell? ⟨b, 2, none⟩ = some (.slice (some ⟨g, 0, none⟩) l.length c) := (hb2.cell (p := ⟨b, 2, none⟩) (by show b < _; omega)).trans c2
      have a12 : w2.cell? ⟨g, i * 2, none⟩ = some (.int .i64 (x1 : Nat)) := (hb2.cell (p := ⟨g, i * 2, none⟩) hg).trans a1
      have cn2 : w2.cell? ⟨w.heap.size, 0, none⟩ = some (.int .i64 (m : Nat)) := (hb2.cell (p := ⟨w.heap.size, 0, none⟩) (by show w.heap.size < _; omega)).trans hcn
      have hs2 := hb2.size
      have HEM2 := Lib.hid (HEM1.out.below hb2)
      have HB2 := Lib.hid (HBX.out.trans (hb2.mono (by omega)))
      clear hb2 c2 a1 hcn
      go_wp2_with fail
      refine (HCUT.out w2 HEM2.out (by omega)).mono ?_
      rintro e w3 ⟨rfl, hem3, hgr3⟩
      have HEM3 := Lib.hid (hem3.lower (base' := base) (by omega))
      have HGR3 := Lib.hid ((Gr.of_below (fun k => k = b) HB2.out).trans hgr3 (fun _ _ h => h))
      clear hem3 hgr3
      go_wp2_with fail
      go_ret2
      exact ⟨rfl, HEM3.out, HGR3.out⟩
end Go.Proofs.YtbcamfbbooggfaaGreat.F
end
