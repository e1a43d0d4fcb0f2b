/- A text's chunks, or why there are none. -/
import Derived.Test.YtbckibjpaiealaaGr
import Derived.Test.YtbckibjpaiealaaGT
set_option linter.unusedVariables false
set_option linter.unusedSimpArgs false
namespace Go.Proofs.Ytbckibjpaiealaa.F
open Go.RowKit Go.Proofs.YtbckibjpaiealaaW.PrintWords

set_option maxRecDepth 20000 in
set_option maxHeartbeats 2000000 in
theorem GearCuts_walk (mn av mx : Int) (seed : Nat) (A : Option Addr) (c : Nat) (p : List Nat) (w : World) (hs : seed < 18446744073709551616) (hr : RN .u8 w A p) (hp : ∀ x ∈ p, x < 256) (hc : p.length ≤ c) :
    Calls Try.prog 4 #[.agg #[.int .i64 mn, .int .i64 av, .int .i64 mx], .int .u64 seed, .slice A p.length c] w fun e w' => e = .returned (.bool true) ∧ Below w.heap.size w w' := by
  have htc := refTable_c seed hs
  obtain ⟨W0, hW0⟩ : ∃ W0, w.alloc (.cells #[.int .i64 mn, .int .i64 av, .int .i64 mx] 24) = W0 := ⟨_, rfl⟩
  have hB0 : Below w.heap.size w W0 := by rw [← hW0]; exact (Below.refl _ _).alloc (Nat.le_refl _) _
  have hs0 : W0.heap.size = w.heap.size + 1 := by rw [← hW0]; simp
  have hg : W0.heap[w.heap.size]? = some (.cells #[.int .i64 mn, .int .i64 av, .int .i64 mx] 24 (0, 0)) := by rw [← hW0]; exact heap_alloc_new _ _
  have c0 : W0.cell? ⟨w.heap.size, 0, none⟩ = some (.int .i64 mn) := by rw [cell_of_row _ _ _ _ _ _ hg]; rfl
  have c1 : W0.cell? ⟨w.heap.size, 1, none⟩ = some (.int .i64 av) := by rw [cell_of_row _ _ _ _ _ _ hg]; rfl
  have c2 : W0.cell? ⟨w.heap.size, 2, none⟩ = some (.int .i64 mx) := by rw [cell_of_row _ _ _ _ _ _ hg]; rfl
  have hr0 := hr.below hB0
  have hsm := small_c A c p W0 hr0 hc
  have hrq : RN .u8 W0 A (p.take 3000) := by
    by_cases h : 3000 ≤ p.length
    · exact hr0.take 3000 h
    · rw [List.take_of_length_le (by omega)]; exact hr0
  have hpq : ∀ x ∈ p.take 3000, x < 256 := fun x hx => hp x (List.mem_of_mem_take hx)
  have hql : (p.take 3000).length ≤ 3000 := by rw [List.length_take]; omega
  obtain ⟨q, hq⟩ : ∃ q, p.take 3000 = q := ⟨_, rfl⟩
  rw [hq] at hsm hrq hpq hql
  clear hq hr hr0 hp hc hs
  have hlt := gtab_lt seed
  have hl0 := gtab_len seed
  have hall := fun W (hr : RN .u8 W A q) => All_c mn av mx (gtab seed) A c q W hl0 hr hpq (by omega)
  have href := fun W (hr : RN .u8 W A q) => refAll_c mn av mx (gtab seed) A c q W hl0 hlt hr hpq (by omega)
  obtain ⟨out, hout⟩ : ∃ out, allOut mn av mx (gtab seed) q = out := ⟨_, rfl⟩
  obtain ⟨tt, htt⟩ : ∃ tt, tabA (gtab seed) = tt := ⟨_, rfl⟩
  obtain ⟨cv, hcv⟩ : ∃ cv, checkV mn av mx = cv := ⟨_, rfl⟩
  rw [htt] at htc hall href
  rw [hout, hcv] at hall href
  obtain ⟨sv, hsv⟩ : ∃ sv : Int, (seed : Int) = sv := ⟨_, rfl⟩
  rw [hsv] at htc ⊢
  have HT := Lib.hid htc
  have HA := Lib.hid hall
  have HF := Lib.hid href
  have HSM := Lib.hid hsm
  have HRQ := Lib.hid hrq
  clear htc hall href hsm hrq hlt hl0 hout htt hcv hsv hg
  have kp : ∀ (W W' : World) (n : Nat) (v : Value), Below W.heap.size W W' → w.heap.size < W.heap.size → W.cell? ⟨w.heap.size, n, none⟩ = some v → W'.cell? ⟨w.heap.size, n, none⟩ = some v := fun W W' n v hb hl h => (cell_move (a := ⟨w.heap.size, n, none⟩) (hb.block _ hl)).trans h
  have KP := Lib.hid kp
  clear kp
  have e0 := hs0
  go_enter Try.func4, Try.ntmps4
  go_wp2_with fail
  refine (HSM.out).mono ?_
  rintro e w1 ⟨rfl, rfl⟩
  go_wp2_with fail
  go_region_held_law (fun w' => w'.cell? ⟨w.heap.size, 0, none⟩ = some (.int .i64 mn) ∧ w'.cell? ⟨w.heap.size, 1, none⟩ = some (.int .i64 av) ∧ w'.cell? ⟨w.heap.size, 2, none⟩ = some (.int .i64 mx))
    (first | exact ⟨K30, K31, K32⟩ | exact ⟨K20, K21, K22⟩ | go_keep)
    (first
      | (go_simp; go_at_call 11; refine (HT.out _).mono ?_; rintro e w2 ⟨rfl, hb2⟩; have hs2 := hb2.size; have K20 := KP.out _ _ _ _ hb2 (by simp; omega) c0; have K21 := KP.out _ _ _ _ hb2 (by simp; omega) c1; have K22 := KP.out _ _ _ _ hb2 (by simp; omega) c2)
      | (go_simp; go_at_call 15; refine (HA.out _ ((HRQ.out.move (fun _ _ => rfl) : RN .u8 w1.drew A q).below hb2)).mono ?_; rintro e w3 ⟨v3, okc3, rfl, ho3, hb3⟩; have hs3 := hb3.size; have K30 := KP.out _ _ _ _ hb3 (by simp at hs2; omega) K20; have K31 := KP.out _ _ _ _ hb3 (by simp at hs2; omega) K21; have K32 := KP.out _ _ _ _ hb3 (by simp at hs2; omega) K22))
  have hB3 : Below w1.heap.size w1 w3 := ⟨hb3.os.trans hb2.os, hb3.tape.trans hb2.tape, hb3.output.trans hb2.output, Nat.le_trans hs2 hs3, fun k hk => (hb3.block k (by simp at hs2; omega)).trans (hb2.block k hk)⟩
  have hs13 := hB3.size
  have HO3 := Lib.hid ho3
  have HB3 := Lib.hid hB3
  have HR3 := Lib.hid ((HRQ.out : RN .u8 w1 A q).below hB3)
  clear K20 K21 K22 hb2 hb3 ho3 hB3 hs2 hs3
  have k0 := K30
  have k1 := K31
  have k2 := K32
  clear K30 K31 K32
  go_wp2_with fail
  go_region_held_law (fun w' => w'.cell? ⟨w.heap.size, 0, none⟩ = some (.int .i64 mn) ∧ w'.cell? ⟨w.heap.size, 1, none⟩ = some (.int .i64 av) ∧ w'.cell? ⟨w.heap.size, 2, none⟩ = some (.int .i64 mx))
    (first | exact ⟨K30, K31, K32⟩ | exact ⟨K20, K21, K22⟩ | go_keep)
    (first
      | (go_simp; go_at_call 11; refine (HT.out _).mono ?_; rintro e w4 ⟨rfl, hb2⟩; have hs2 := hb2.size; have K20 := KP.out _ _ _ _ hb2 (by simp; omega) k0; have K21 := KP.out _ _ _ _ hb2 (by simp; omega) k1; have K22 := KP.out _ _ _ _ hb2 (by simp; omega) k2)
      | (go_simp; go_at_call 16; refine (HF.out _ ((HR3.out.move (fun _ _ => rfl) : RN .u8 w3.drew A q).below hb2)).mono ?_; rintro e w5 ⟨v5, okc5, rfl, ho5, hb3⟩; have hs3 := hb3.size; have K30 := KP.out _ _ _ _ hb3 (by simp at hs2; omega) K20; have K31 := KP.out _ _ _ _ hb3 (by simp at hs2; omega) K21; have K32 := KP.out _ _ _ _ hb3 (by simp at hs2; omega) K22))
  have hB5 : Below w3.heap.size w3 w5 := ⟨hb3.os.trans hb2.os, hb3.tape.trans hb2.tape, hb3.output.trans hb2.output, Nat.le_trans hs2 hs3, fun k hk => (hb3.block k (by simp at hs2; omega)).trans (hb2.block k hk)⟩
  have HO5 := Lib.hid ho5
  have HB5 := Lib.hid hB5
  clear K20 K21 K22 K30 K31 K32 hb2 hb3 ho5 hB5 hs2 hs3 k0 k1 k2
  go_wp2_with fail
  refine (live_c _).mono ?_
  rintro e w6 ⟨rfl, hb6⟩
  have g1 := (HO3.out.below HB5.out).below hb6
  have g2 := HO5.out.below hb6
  obtain ⟨A1, d1, rfl, _, rr1⟩ := g1.reads
  obtain ⟨A2, d2, rfl, _, rr2⟩ := g2.reads
  have HR1 := Lib.hid rr1
  have HR2 := Lib.hid rr2
  have hB6 : Below w.heap.size w w6 := hB0.trans (((HB3.out.trans (HB5.out.mono HB3.out.size)).trans (hb6.mono (Nat.le_trans HB3.out.size HB5.out.size))).mono hB0.size)
  have HB6 := Lib.hid hB6
  clear rr1 rr2 g1 g2 hb6 hB6
  go_wp2_with fail
  refine (Same_c A1 A2 d1 d2 out _ HR1.out HR2.out).mono ?_
  rintro e w7 ⟨rfl, n, rfl⟩
  go_wp2_with fail
  go_ret
  exact ⟨rfl, pw_below_drewN HB6.out n⟩
end Go.Proofs.Ytbckibjpaiealaa.F
