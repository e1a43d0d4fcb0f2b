/- The chunks, one behind the other, are the stream. -/
import Derived.Test.YtbckibjpaiealaaGU
set_option linter.unusedVariables false
set_option linter.unusedSimpArgs false
namespace Go.Proofs.Ytbckibjpaiealaa.F
open Go.RowKit Go.Proofs.YtbckibjpaiealaaW.PrintWords

theorem gstep_inv {mn av mx : Nat} {tb : List Nat} (h1 : 1 ≤ mn) (h2 : mn ≤ mx) (s : List (List Nat) × List Nat) (b : Nat) (hs : (∀ c ∈ s.1, mn ≤ c.length ∧ c.length ≤ mx) ∧ s.2.length < mx) :
    ((∀ c ∈ (gstep mn av mx tb s b).1, mn ≤ c.length ∧ c.length ≤ mx) ∧ (gstep mn av mx tb s b).2.length < mx) ∧ (gstep mn av mx tb s b).1.flatten ++ (gstep mn av mx tb s b).2 = s.1.flatten ++ s.2 ++ [b] := by
  unfold gstep
  by_cases he : endsAt mn av mx tb (s.2 ++ [b]) = true
  · rw [if_pos he]
    refine ⟨⟨fun c hc => ?_, by simp; omega⟩, by simp⟩
    rcases List.mem_append.1 hc with hc | hc
    · exact hs.1 c hc
    · rw [List.mem_singleton.1 hc]
      unfold endsAt at he
      simp only [Bool.and_eq_true, decide_eq_true_eq] at he
      have := hs.2
      refine ⟨he.1, by simp; omega⟩
  · rw [if_neg he]
    refine ⟨⟨hs.1, ?_⟩, by simp⟩
    have h3 := hs.2
    rw [List.length_append, List.length_singleton]
    by_cases h4 : s.2.length + 1 = mx
    · exfalso
      apply he
      unfold endsAt
      simp [h4]
      omega
    · omega
theorem gfold_inv {mn av mx : Nat} {tb : List Nat} (h1 : 1 ≤ mn) (h2 : mn ≤ mx) (p : List Nat) : ∀ (s : List (List Nat) × List Nat), ((∀ c ∈ s.1, mn ≤ c.length ∧ c.length ≤ mx) ∧ s.2.length < mx) →
    ((∀ c ∈ (p.foldl (gstep mn av mx tb) s).1, mn ≤ c.length ∧ c.length ≤ mx) ∧ (p.foldl (gstep mn av mx tb) s).2.length < mx) ∧ (p.foldl (gstep mn av mx tb) s).1.flatten ++ (p.foldl (gstep mn av mx tb) s).2 = s.1.flatten ++ s.2 ++ p := by
  induction p with
  | nil => intro s hs; exact ⟨hs, by simp⟩
  | cons b p ih =>
    intro s hs
    have h := gstep_inv (av := av) (tb := tb) h1 h2 s b hs
    have h' := ih _ h.1
    refine ⟨h'.1, ?_⟩
    rw [List.foldl_cons, h'.2, h.2]
    simp
theorem chunks_are {mn av mx : Nat} {tb : List Nat} (h1 : 1 ≤ mn) (h2 : mn ≤ mx) (p : List Nat) : (chunks mn av mx tb p).flatten = p ∧
    ∀ k (h : k < (chunks mn av mx tb p).length), 1 ≤ (chunks mn av mx tb p)[k].length ∧ (chunks mn av mx tb p)[k].length ≤ mx ∧ (k + 1 < (chunks mn av mx tb p).length → mn ≤ (chunks mn av mx tb p)[k].length) := by
  have h := gfold_inv (av := av) (tb := tb) h1 h2 p ([], []) ⟨by simp, by simp; omega⟩
  unfold chunks
  obtain ⟨s, hs⟩ : ∃ s, p.foldl (gstep mn av mx tb) ([], []) = s := ⟨_, rfl⟩
  rw [hs] at h ⊢
  obtain ⟨⟨ha, hb⟩, hc⟩ := h
  by_cases hx : 0 < s.2.length
  · rw [if_pos hx]
    refine ⟨by simpa using hc, fun k hk => ?_⟩
    rw [List.length_append, List.length_singleton] at hk
    by_cases hk2 : k < s.1.length
    · rw [List.getElem_append_left hk2]
      have := ha _ (List.getElem_mem hk2)
      exact ⟨by omega, this.2, fun _ => this.1⟩
    · have hk3 : k = s.1.length := by omega
      subst hk3
      rw [List.getElem_append_right (Nat.le_refl _)]
      simp only [Nat.sub_self, List.getElem_cons_zero, List.length_append, List.length_singleton]
      exact ⟨by omega, by omega, fun h => by omega⟩
  · rw [if_neg hx]
    have h0 : s.2 = [] := List.eq_nil_of_length_eq_zero (by omega)
    rw [h0] at hc
    refine ⟨by simpa using hc, fun k hk => ?_⟩
    simp only [List.append_nil] at hk ⊢
    have := ha _ (List.getElem_mem hk)
    exact ⟨by omega, this.2, fun _ => this.1⟩
theorem flat_take (out : List (List Nat)) (k : Nat) (h : k < out.length) : (out.take (k + 1)).flatten = (out.take k).flatten ++ out[k] := by
  rw [List.take_succ_eq_append_getElem h, List.flatten_append]; simp
theorem flat_len (out : List (List Nat)) (k : Nat) : (out.take k).flatten.length ≤ out.flatten.length := by
  conv => rhs; rw [← List.take_append_drop k out, List.flatten_append, List.length_append]
  omega

set_option maxRecDepth 20000 in
set_option maxHeartbeats 4000000 in
theorem GearWhole_walk (mn av mx : Int) (seed : Nat) (A : Option Addr) (c : Nat) (p : List Nat) (w : World) (hs : seed < 18446744073709551616) (hr : RN .u8 w A p) (hp : ∀ x ∈ p, x < 256) (hc : p.length ≤ c) (hl : p.length ≤ 1048576) :
    Calls Try.prog 5 #[.agg #[.int .i64 mn, .int .i64 av, .int .i64 mx], .int .u64 seed, .slice A p.length c] w fun e w' => e = .returned (.bool true) ∧ Below w.heap.size w w' := by
  have htc := refTable_c seed hs
  obtain ⟨W0, hW0⟩ : ∃ W0, w.alloc (.cells #[.int .i64 mn, .int .i64 av, .int .i64 mx] 24) = W0 := ⟨_, rfl⟩
  have hB0 : Below w.heap.size w W0 := by rw [← hW0]; exact (Below.refl _ _).alloc (Nat.le_refl _) _
  have hs0 : W0.heap.size = w.heap.size + 1 := by rw [← hW0]; simp
  have hg : W0.heap[w.heap.size]? = some (.cells #[.int .i64 mn, .int .i64 av, .int .i64 mx] 24 (0, 0)) := by rw [← hW0]; exact heap_alloc_new _ _
  have c0 : W0.cell? ⟨w.heap.size, 0, none⟩ = some (.int .i64 mn) := by rw [cell_of_row _ _ _ _ _ _ hg]; rfl
  have c1 : W0.cell? ⟨w.heap.size, 1, none⟩ = some (.int .i64 av) := by rw [cell_of_row _ _ _ _ _ _ hg]; rfl
  have c2 : W0.cell? ⟨w.heap.size, 2, none⟩ = some (.int .i64 mx) := by rw [cell_of_row _ _ _ _ _ _ hg]; rfl
  have hr0 := hr.below hB0
  have hl0 := gtab_len seed
  have hall := fun W (hr : RN .u8 W A p) => All_c mn av mx (gtab seed) A c p W hl0 hr hp (by omega)
  have hfacts : (cutOk mn av mx = false ∧ allOut mn av mx (gtab seed) p = [] ∧ checkV mn av mx = 2) ∨ (checkV mn av mx = 0 ∧ (allOut mn av mx (gtab seed) p).flatten = p ∧ (∀ k (h : k < (allOut mn av mx (gtab seed) p).length), 1 ≤ (allOut mn av mx (gtab seed) p)[k].length ∧ ((allOut mn av mx (gtab seed) p)[k].length : Int) ≤ mx ∧ (k + 1 < (allOut mn av mx (gtab seed) p).length → mn ≤ ((allOut mn av mx (gtab seed) p)[k].length : Int)))) := by
    by_cases h : cutOk mn av mx = true
    · right
      obtain ⟨a, b, d, rfl, rfl, rfl⟩ := cut_nat h
      have hmn : 1 ≤ a ∧ a ≤ d := by
        unfold cutOk at h
        simp only [Bool.and_eq_true, decide_eq_true_eq] at h
        omega
      have hch := chunks_are (av := b) (tb := gtab seed) hmn.1 hmn.2 p
      have e : allOut (a : Int) b d (gtab seed) p = chunks a b d (gtab seed) p := by unfold allOut; rw [if_pos h]; simp
      rw [e]
      refine ⟨by unfold checkV; rw [if_pos h], hch.1, fun k hk => ?_⟩
      have := hch.2 k hk
      exact ⟨this.1, by omega, fun h2 => by have := this.2.2 h2; omega⟩
    · left
      exact ⟨by simpa using h, by unfold allOut; rw [if_neg h], by unfold checkV; rw [if_neg h]⟩
  obtain ⟨out, hout⟩ : ∃ out, allOut mn av mx (gtab seed) p = out := ⟨_, rfl⟩
  obtain ⟨tt, htt⟩ : ∃ tt, tabA (gtab seed) = tt := ⟨_, rfl⟩
  obtain ⟨cv, hcv⟩ : ∃ cv, checkV mn av mx = cv := ⟨_, rfl⟩
  rw [htt] at htc hall
  rw [hout, hcv] at hall hfacts
  obtain ⟨sv, hsv⟩ : ∃ sv : Int, (seed : Int) = sv := ⟨_, rfl⟩
  rw [hsv] at htc ⊢
  have HT := Lib.hid htc
  have HA := Lib.hid hall
  have HR := Lib.hid hr0
  have HF := Lib.hid hfacts
  have HL := Lib.hid hl
  clear htc hall hr0 hl0 hout htt hcv hsv hg hfacts hr hs
  have kp : ∀ (W W' : World) (n : Nat) (v : Value), Below W.heap.size W W' → w.heap.size < W.heap.size → W.cell? ⟨w.heap.size, n, none⟩ = some v → W'.cell? ⟨w.heap.size, n, none⟩ = some v := fun W W' n v hb hl h => (cell_move (a := ⟨w.heap.size, n, none⟩) (hb.block _ hl)).trans h
  have KP := Lib.hid kp
  clear kp
  go_enter Try.func5, Try.ntmps5
  go_wp2_with fail
  go_region_held_law (fun w' => w'.cell? ⟨w.heap.size, 0, none⟩ = some (.int .i64 mn) ∧ w'.cell? ⟨w.heap.size, 1, none⟩ = some (.int .i64 av) ∧ w'.cell? ⟨w.heap.size, 2, none⟩ = some (.int .i64 mx))
    (first | exact ⟨K30, K31, K32⟩ | exact ⟨K20, K21, K22⟩ | go_keep)
    (first
      | (go_simp; go_at_call 11; refine (HT.out _).mono ?_; rintro e w2 ⟨rfl, hb2⟩; have hs2 := hb2.size; have K20 := KP.out _ _ _ _ hb2 (by simp; omega) c0; have K21 := KP.out _ _ _ _ hb2 (by simp; omega) c1; have K22 := KP.out _ _ _ _ hb2 (by simp; omega) c2)
      | (go_simp; go_at_call 15; refine (HA.out _ ((HR.out.move (fun _ _ => rfl) : RN .u8 W0.drew A p).below hb2)).mono ?_; rintro e w3 ⟨v3, okc3, rfl, ho3, hb3⟩; have hs3 := hb3.size; have K30 := KP.out _ _ _ _ hb3 (by simp at hs2; omega) K20; have K31 := KP.out _ _ _ _ hb3 (by simp at hs2; omega) K21; have K32 := KP.out _ _ _ _ hb3 (by simp at hs2; omega) K22))
  have hB3 : Below W0.heap.size W0 w3 := ⟨hb3.os.trans hb2.os, hb3.tape.trans hb2.tape, hb3.output.trans hb2.output, Nat.le_trans hs2 hs3, fun k hk => (hb3.block k (by simp at hs2; omega)).trans (hb2.block k hk)⟩
  have hs13 := hB3.size
  have hbw3 : Below w.heap.size w w3 := hB0.trans (hB3.mono hB0.size)
  have HO3 := Lib.hid ho3
  have HBW3 := Lib.hid hbw3
  have HR3 := Lib.hid (HR.out.below hB3)
  have k0 := K30
  have k2 := K32
  clear K20 K21 K22 K30 K31 K32 hb2 hb3 ho3 hB3 hs2 hs3 hbw3 c0 c1 c2 hB0 hW0
  rcases HF.out with ⟨_, hout, hcv⟩ | ⟨hcv, hfl, hck⟩
  · subst hout hcv
    obtain ⟨A1, d1, rfl, _, _⟩ := HO3.out.reads
    go_wp2_with fail
    refine (live_c _).mono ?_
    rintro e w6 ⟨rfl, hb6⟩
    have HB6 := Lib.hid (HBW3.out.trans (hb6.mono HBW3.out.size))
    clear hb6
    go_wp2_with fail
    go_ret
    exact ⟨rfl, HB6.out⟩
  · subst hcv
    obtain ⟨A1, d1, rfl, hd1, hrr⟩ := HO3.out.reads
    have hol := hrr.max
    have HRR := Lib.hid hrr
    have HFL := Lib.hid hfl
    have HCK := Lib.hid hck
    have K0 := Lib.hid k0
    have K2 := Lib.hid k2
    have hwl : w.heap.size < w3.heap.size := by have := HBW3.out.size; omega
    clear hrr hfl hck k0 k2
    go_wp2_with fail
    go_loopw [9, 10, 11] (fun va vi vn W => ∃ k : Nat, k ≤ out.length ∧ vi = .int .i64 k ∧ OwnN .u8 5 W w3.heap.size va (out.take k).flatten ∧ Below w3.heap.size w3 W) (fun va vi vn _ => out.length - (intOf vi).toNat)
    case atStart => exact ⟨0, by omega, rfl, own_nil _ _ _ _, Below.refl _ _⟩
    case round =>
      obtain ⟨k, hk, rfl, hva, hW⟩ := hrel
      have HVA := Lib.hid hva
      have HW := Lib.hid hW
      clear hva hW
      by_cases hlt : k < out.length
      · have hd : decide ((k : Int) < out.length) = true := decide_eq_true (by omega)
        obtain ⟨ad, B1, b1, e, q1, l1, r1⟩ := (HRR.out.below HW.out).at k hlt
        subst e
        have hck := HCK.out k hlt
        have hft := flat_take out k hlt
        have hfl2 := flat_len out (k + 1)
        rw [HFL.out, hft, List.length_append] at hfl2
        have k0 := KP.out _ _ _ _ HW.out hwl K0.out
        have k2 := KP.out _ _ _ _ HW.out hwl K2.out
        obtain ⟨ys, hys⟩ : ∃ ys, out[k] = ys := ⟨_, rfl⟩
        rw [hys] at q1 l1 r1 hck hft hfl2
        clear hys
        have hbnd : ((out.take k).flatten.length + ys.length) * 1 ≤ 140737488355328 := by have := HL.out; omega
        have HFT := Lib.hid hft
        have HRY := Lib.hid r1
        have HBD := Lib.hid hbnd
        clear hft hfl2 r1 hbnd
        have i0 : (0 : Int) ≤ (k : Int) := by omega
        have i1 : (k : Int) < (out.length : Int) := by omega
        have t1 : decide ((ys.length : Int) < 1) = false := decide_eq_false (by omega)
        have t2 : decide (mx < (ys.length : Int)) = false := decide_eq_false (by omega)
        have hb3 : w3.heap.size ≤ wr.heap.size := HW.out.size
        by_cases hmn : mn ≤ (ys.length : Int)
        · have t3 : decide ((ys.length : Int) < mn) = false := decide_eq_false (by omega)
          clear hmn hck
          go_wp2_with (at_builtin; refine append_NN w3.heap.size rfl (.tmp 60) (.tmp 64) 32 5 .u8 1 rfl Try.underlying32 info_u8 (by decide) u9 (out.take k).flatten ys B1 b1 rfl rfl HVA.out HRY.out hb3 HBD.out ?_; intro v1 w1 ho1 hg1 hat1)
          refine ⟨⟨k + 1, by omega, by go_num, by rw [HFT.out]; exact ho1, ?_⟩, by simp [intOf]; omega⟩
          exact ⟨hg1.os.trans HW.out.os, hg1.tape.trans HW.out.tape, hg1.output.trans HW.out.output, Nat.le_trans hb3 hg1.size, fun j hj => (hg1.block j (by omega) (fun hh => by have := (HVA.out.typed j hh.symm).1; omega)).trans (HW.out.block j hj)⟩
        · have t3 : decide ((ys.length : Int) < mn) = true := decide_eq_true (by omega)
          have hke : k + 1 = out.length := by
            by_cases h : k + 1 < out.length
            · exact absurd (hck.2.2 h) hmn
            · omega
          have t4 : decide ((k : Int) < (out.length : Int) - 1) = false := decide_eq_false (by omega)
          clear hmn hck
          go_wp2_with (at_builtin; refine append_NN w3.heap.size rfl (.tmp 60) (.tmp 64) 32 5 .u8 1 rfl Try.underlying32 info_u8 (by decide) u9 (out.take k).flatten ys B1 b1 rfl rfl HVA.out HRY.out hb3 HBD.out ?_; intro v1 w1 ho1 hg1 hat1)
          refine ⟨⟨k + 1, by omega, by go_num, by rw [HFT.out]; exact ho1, ?_⟩, by simp [intOf]; omega⟩
          exact ⟨hg1.os.trans HW.out.os, hg1.tape.trans HW.out.tape, hg1.output.trans HW.out.output, Nat.le_trans hb3 hg1.size, fun j hj => (hg1.block j (by omega) (fun hh => by have := (HVA.out.typed j hh.symm).1; omega)).trans (HW.out.block j hj)⟩
      · have hd : decide ((k : Int) < out.length) = false := decide_eq_false (by omega)
        have hke : k = out.length := by omega
        obtain ⟨A9, d9, hv9, _, r9⟩ := HVA.out.reads
        have hfp : (out.take k).flatten = p := by rw [hke, List.take_length]; exact HFL.out
        rw [hfp] at hv9 r9
        subst hv9
        have HR9 := Lib.hid r9
        have hbw : Below w.heap.size w wr := HBW3.out.trans (HW.out.mono HBW3.out.size)
        have HBW := Lib.hid hbw
        have hrp := HR3.out.below HW.out
        have HRP := Lib.hid hrp
        clear r9 hbw hrp hfp
        go_wp2_with fail
        refine (live_c _).mono ?_
        rintro e w6 ⟨rfl, hb6⟩
        have s1 := RN.string (c := d9) Try.underlying32 Try.underlying5 Try.underlying9 (HR9.out.below hb6)
        have s2 := RN.string (c := c) Try.underlying32 Try.underlying5 Try.underlying9 (HRP.out.below hb6)
        have hb7 := HBW.out.trans (hb6.mono HBW.out.size)
        have HB7 := Lib.hid hb7
        clear hb6 hb7
        go_wp2_with fail
        go_ret
        exact ⟨by simp, HB7.out⟩
end Go.Proofs.Ytbckibjpaiealaa.F
