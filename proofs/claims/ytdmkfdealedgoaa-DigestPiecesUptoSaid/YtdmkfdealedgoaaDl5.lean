/- Pieces written to a hash, walked. -/
import Derived.Test.YtdmkfdealedgoaaDl4
set_option linter.unusedVariables false
set_option linter.unusedSimpArgs false
namespace Go.Proofs.Ytdmkfdealedgoaa.F
open Go.RowKit Go.Proofs.YtdmkfdealedgoaaW.PrintWords

theorem flat_take (out : List (List Nat)) (k : Nat) (h : k < out.length) : (out.take (k + 1)).flatten = (out.take k).flatten ++ out[k] := by
  rw [List.take_succ_eq_append_getElem h, List.flatten_append]; simp
theorem flat_len (out : List (List Nat)) (k : Nat) : (out.take k).flatten.length ≤ out.flatten.length := by
  rw [← List.take_append_drop k out, List.flatten_append, List.length_append, List.take_append_drop]; omega
theorem flat_sub {out : List (List Nat)} (h : ∀ x ∈ out.flatten, x < 256) (k : Nat) : ∀ x ∈ (out.take k).flatten, x < 256 := fun x hx => h x (by
  rw [← List.take_append_drop k out, List.flatten_append]; exact List.mem_append_left _ hx)
theorem neq_sum (w : World) (f : Nat → Nat) (hf : ∀ i, f i < 256) : Sem.run Try.prog (binOp BinOp.neq 24 (.agg (tabK .u8 32 f)) (.agg (tabK .u8 32 f))) w = Result.ok (.bool false) w := by
  rw [tab_bytes f hf]
  have h := run_equalIn_bytes (P := Try.prog) w 9998 24 5 32 Try.underlying24 Try.underlying5 (fun _ => by kernel_rfl) ((List.range 32).map fun i => UInt8.ofNat (f i)) ((List.range 32).map fun i => UInt8.ofNat (f i)) (by simp) (by simp)
  simp only [binOp]
  simp only [Op.equal, Op.maxDepth, Sem.run_bind, h, Result.andThen_ok, Sem.run_pure]
  simp
/-- Blocks below lo and from hi on are as they were. -/
structure Btw (lo hi : Nat) (a b : World) : Prop where
  os : b.os = a.os
  tape : b.tape = a.tape
  output : b.output = a.output
  size : a.heap.size ≤ b.heap.size
  block : ∀ k, k < a.heap.size → (k < lo ∨ hi ≤ k) → b.heap[k]? = a.heap[k]?
theorem Btw.refl (lo hi : Nat) (a : World) : Btw lo hi a a := ⟨rfl, rfl, rfl, Nat.le_refl _, fun _ _ _ => rfl⟩
theorem Btw.setCell {lo hi : Nat} {a b : World} (h : Btw lo hi a b) {g j : Nat} (h1 : lo ≤ g) (h2 : g < hi) (v : Value) : Btw lo hi a (b.setCell ⟨g, j, none⟩ v) :=
  ⟨h.os, h.tape, h.output, by simpa using h.size, fun k hk hc => (heap_setCell_other _ _ _ _ (fun e => by
    have e2 : k = g := e
    omega)).trans (h.block k hk hc)⟩
theorem Btw.below {lo hi N : Nat} {a b : World} (h : Btw lo hi a b) (h1 : N ≤ lo) (h2 : N ≤ a.heap.size) : Below N a b :=
  ⟨h.os, h.tape, h.output, h.size, fun k hk => h.block k (by omega) (.inl (by omega))⟩
theorem set_lt {zs : List Nat} (h : ∀ x ∈ zs, x < 256) (j : Nat) {y : Nat} (hy : y < 256) : ∀ x ∈ zs.set j y, x < 256 := fun x hx => by
  rcases List.mem_or_eq_of_mem_set hx with h1 | h1
  · exact h x h1
  · omega
theorem OwnN.head {k : IntKind} {e : TypeId} {W : World} {base : Nat} {A : Option Addr} {n c : Nat} {xs : List Nat} (h : OwnN k e W base (.slice A n c) xs) (hx : 0 < xs.length) : ∃ g, A = some ⟨g, 0, none⟩ ∧ n = xs.length ∧ base ≤ g ∧ g < W.heap.size := by
  rcases h.2 with ⟨_, h0⟩ | ⟨g, cap, cur, e2, hb, hh, hc, _⟩
  · omega
  · injection e2 with e3 e4 e5
    exact ⟨g, e3, e4, hb, (Array.getElem?_eq_some_iff.1 hh).1⟩

set_option maxHeartbeats 8000000 in
theorem DigestPieces_walk (A : Option Addr) (c : Nat) (css : List (List Nat)) (w : World) (hr : RR w A css) (hb : ∀ x ∈ css.flatten, x < 256) (hl : css.flatten.length ≤ 1048576) :
    Calls Try.prog 7 #[.slice A css.length c] w fun e w' => e = .returned (.bool true) ∧ Below w.heap.size w w' := by
  have hmx := hr.max
  have heq : ∀ w p, Sem.run Try.prog (binOp BinOp.eql 24 (.agg (shaA p)) (.agg (shaA p))) w = Result.ok (.bool true) w := fun w p => eql_sum w (shaB p) (shaB_lt p)
  have hne : ∀ w p, Sem.run Try.prog (binOp BinOp.neq 24 (.agg (shaA p)) (.agg (shaA p))) w = Result.ok (.bool false) w := fun w p => neq_sum w (shaB p) (shaB_lt p)
  have HRR := Lib.hid hr
  have HBB := Lib.hid hb
  clear hr hb
  go_enter Try.func7, Try.ntmps7
  go_wp2_with fail
  refine (New_h _).mono ?_
  rintro e w1 ⟨B, rfl, hB, hh1, hb1⟩
  have hBl := hh1.lt
  have H1 := Lib.hid hh1
  have HB1 := Lib.hid hb1
  have hs1 := hb1.size
  clear hh1 hb1
  go_wp2_with fail
  go_loopw [4, 5] (fun va vi W => ∃ k : Nat, k ≤ css.length ∧ vi = .int .i64 k ∧ HH W B (css.take k).flatten ∧ OwnN .u8 5 W w1.heap.size va (css.take k).flatten ∧ Below w.heap.size w W ∧ w1.heap.size ≤ W.heap.size) (fun va vi _ => css.length - (intOf vi).toNat)
  case atStart => exact ⟨0, by omega, rfl, H1.out, own_nil _ _ _ _, HB1.out, Nat.le_refl _⟩
  case round =>
    obtain ⟨k, hk, rfl, hh, hva, hW, hsz⟩ := hrel
    have HW := Lib.hid hW
    clear hW
    by_cases hlt : k < css.length
    · have hd : decide ((k : Int) < css.length) = true := decide_eq_true (by omega)
      obtain ⟨ad, A9, c9, e, q9, l9, r9⟩ := (HRR.out.below HW.out).at k hlt
      subst e
      have hft := flat_take css k hlt
      have hfl := flat_len css (k + 1)
      have hpb := flat_sub HBB.out k
      have hpb2 := flat_sub HBB.out (k + 1)
      rw [hft] at hpb2
      rw [hft, List.length_append] at hfl
      obtain ⟨ys, hys⟩ : ∃ ys, css[k] = ys := ⟨_, rfl⟩
      obtain ⟨p, hp⟩ : ∃ p, (css.take k).flatten = p := ⟨_, rfl⟩
      rw [hys] at q9 l9 r9 hft hfl hpb2
      rw [hp] at hft hfl hpb hpb2 hh hva
      have HYS := Lib.hid hys
      clear hys hp
      have hyb : ∀ x ∈ ys, x < 256 := fun x hx => hpb2 x (List.mem_append_right _ hx)
      have hpl : p.length + ys.length ≤ 1048576 := by omega
      have hpl2 : (p.length + ys.length) * 1 ≤ 140737488355328 := by omega
      have hyl : (([] : List Nat).length + ys.length) * 1 ≤ 140737488355328 := by simp; omega
      have HH0 := Lib.hid hh
      have HVA := Lib.hid hva
      have HFT := Lib.hid hft
      have HPB := Lib.hid hpb
      have HPB2 := Lib.hid hpb2
      have HYB := Lib.hid hyb
      have HPL2 := Lib.hid hpl2
      have HYL := Lib.hid hyl
      have hO := empty_lit wr
      have hbA : Below wr.heap.size wr (wr.alloc (.cells #[] 5)) := (Below.refl _ _).alloc (Nat.le_refl _) _
      have hs2 : wr.heap.size ≤ (wr.alloc (.cells #[] 5)).heap.size := by simp
      have HO := Lib.hid hO
      have HBA := Lib.hid hbA
      have HRY := Lib.hid (r9.below hbA)
      have i0 : (0 : Int) ≤ (k : Int) := by omega
      have i1 : (k : Int) < (css.length : Int) := by omega
      clear hh hva hft hpb hpb2 hyb hpl2 hyl hO hbA r9 hfl
      obtain ⟨wo, rfl⟩ : ∃ wo : World, wo = wr := ⟨_, rfl⟩
      have q10 : (wo.alloc (.cells #[] 5)).cell? (ad.add k) = some (.slice A9 ys.length c9) := (HBA.out.cell (World.block_lt_of_cell? _ _ q9)).trans q9
      go_wp2_with (at_builtin; refine append_NNw wo.heap.size rfl (.tmp 15) (.tmp 19) 22 5 .u8 1 rfl Try.underlying22 info_u8 (by decide) (.slice (some ⟨wo.heap.size, 0, none⟩) 0 0) [] ys A9 c9 rfl rfl HO.out HRY.out hs2 HYL.out ?_; intro v6 x6 ho6 hg6 hat6)
      rw [List.nil_append] at ho6
      have hb6 := HBA.out.trans (below_grown HO.out hs2 hg6)
      obtain ⟨A6, c6, rfl, hc6, hn6, ha6, hr6⟩ := ho6.form
      have HH6 := Lib.hid (HH0.out.below hb6)
      have HO6 := Lib.hid ho6
      have HB6 := Lib.hid hb6
      have HR6 := Lib.hid hr6
      have hs6 := hb6.size
      clear ho6 hg6 hat6 hb6 hr6 HO HBA HRY hs2 HH0 q10
      go_wp2_with fail
      refine (Write_f B p A6 c6 ys x6 HH6.out HPB.out HR6.out HYB.out (by omega)).mono ?_
      rintro e w7 ⟨rfl, hf7, hb7⟩
      have hs7 := hb7.size
      have HF7 := Lib.hid hf7
      have HB7 := Lib.hid hb7
      have ho7 : OwnN .u8 5 w7 wo.heap.size (.slice A6 ys.length c6) ys := HO6.out.move (fun b hb => hb7.block b (HO6.out.typed b hb).2.1 (by have := (HO6.out.typed b hb).1; omega))
      have HO7 := Lib.hid ho7
      clear hf7 hb7 ho7 HH6 HR6
      go_wp2_with fail
      go_loopw [7] (fun vk W => ∃ (j : Nat) (zs : List Nat), j ≤ ys.length ∧ vk = .int .i64 j ∧ zs.length = ys.length ∧ (∀ x ∈ zs, x < 256) ∧ OwnN .u8 5 W wo.heap.size (.slice A6 ys.length c6) zs ∧ Btw wo.heap.size x6.heap.size w7 W) (fun vk _ => ys.length - (intOf vk).toNat)
      case atStart => exact ⟨0, ys, by omega, rfl, rfl, HYB.out, HO7.out, Btw.refl _ _ _⟩
      case round =>
        obtain ⟨j, zs, hj, rfl, hzl, hzb, hoz, hbt⟩ := hrel
        have HZL := Lib.hid hzl
        have HZB := Lib.hid hzb
        have HOZ := Lib.hid hoz
        have HBT := Lib.hid hbt
        by_cases hlt2 : j < ys.length
        · have hd2 : decide ((j : Int) < ys.length) = true := decide_eq_true (by omega)
          obtain ⟨g, rfl, _, hg1, hg2⟩ := hoz.head (by omega)
          have hg3 : g < x6.heap.size := (HO6.out.typed g rfl).2.1
          rw [← hzl] at hoz
          have hcell := hoz.cellAt j (by omega)
          have hfr := hoz.frozenAt j
          have hzj : zs[j]'(by omega) < 256 := hzb _ (List.getElem_mem _)
          obtain ⟨z, hz⟩ : ∃ z, zs[j]'(by omega) = z := ⟨_, rfl⟩
          rw [hz] at hcell hzj
          have hxor : Go.bits .xor .u8 (z : Int) 1 = ((z ^^^ 1 : Nat) : Int) := u8_xor_nat z 1 hzj (by omega)
          have hxl : z ^^^ 1 < 256 := Nat.xor_lt_two_pow (n := 8) hzj (by omega)
          have hst := hoz.stored j (z ^^^ 1)
          have HST := Lib.hid hst
          have i2 : (0 : Int) ≤ (j : Int) := by omega
          have i3 : (j : Int) < (ys.length : Int) := by omega
          clear hzl hzb hoz hbt hz hst
          go_wp2_with fail
          refine ⟨⟨j + 1, zs.set j (z ^^^ 1), by omega, by go_num, by rw [List.length_set]; exact HZL.out, set_lt HZB.out j hxl, ?_, HBT.out.setCell hg1 hg3 _⟩, by simp [intOf]; omega⟩
          have h := HST.out
          rw [HZL.out] at h
          exact h
        · have hd2 : decide ((j : Int) < ys.length) = false := decide_eq_false (by omega)
          have hbx : Below w.heap.size w x6 := HW.out.trans (HB6.out.mono (by omega))
          have hb7' : Below w.heap.size x6 w7 := (HB7.out.mono (by omega)).below hB
          have hbt' : Below w.heap.size w7 wr := hbt.below (by omega) (by omega)
          have hbw : Below w.heap.size w wr := (hbx.trans hb7').trans hbt'
          obtain ⟨ad2, A8, c8, e2, q11, l11, r11⟩ := (HRR.out.below hbw).at k hlt
          injection e2 with e2
          subst e2
          rw [HYS.out] at q11 l11 r11
          have hsr := hbt.size
          have hva2 : OwnN .u8 5 wr w1.heap.size u4 p := HVA.out.move (fun b hb => by
            have h := HVA.out.typed b hb
            exact ((hbt.block b (by omega) (.inl (by omega))).trans (HB7.out.block b (by omega) (by omega))).trans (HB6.out.block b (by omega)))
          have hf2 := HF7.out.move (W' := wr) (hbt.block B (by omega) (.inl (by omega))) (fun k hk1 hk2 => hbt.block k hk2 (.inr hk1))
          have hlo : ∀ b, u4.ownBlock = some b → w1.heap.size ≤ b ∧ b < wo.heap.size := fun b hb => ⟨(HVA.out.typed b hb).1, (HVA.out.typed b hb).2.1⟩
          have HVA2 := Lib.hid hva2
          have HF2 := Lib.hid hf2
          have HLO := Lib.hid hlo
          have HBW := Lib.hid hbw
          have HR11 := Lib.hid r11
          have hw1r : w1.heap.size ≤ wr.heap.size := by omega
          clear hzl hzb hoz hbt hbx hb7' hbt' hbw hva2 hf2 hlo r11 HVA HF7 HB7 HB6 HO6 HO7 HBT HOZ HZB HZL HW
          by_cases h3 : k % 3 = 1
          · have h3' : ((k : Int) % 3 == 1) = true := by simp; omega
            have h4' : (k : Int) % 3 = 1 := by omega
            go_wp2_with (at_builtin; refine append_NNw w1.heap.size rfl (.tmp 37) (.tmp 41) 22 5 .u8 1 rfl Try.underlying22 info_u8 (by decide) u4 p ys A8 c8 rfl rfl HVA2.out HR11.out hw1r HPL2.out ?_; intro v8 x8 ho8 hg8 hat8)
            have hs8 := hg8.size
            have hb8 : Below w.heap.size wr x8 := below_grown (HVA2.out.lower (by omega)) (by omega) hg8
            have hh8 := (HF2.out.move (W' := x8) (hg8.block B (by omega) (fun e => by have := HLO.out B e.symm; omega)) (fun k hk1 hk2 => hg8.block k hk2 (fun e => by have := HLO.out k e.symm; omega))).hh
            obtain ⟨A7, c7, rfl, hc7, _, _, hr7⟩ := ho8.form
            have HBW8 := Lib.hid (HBW.out.trans hb8)
            have HH8 := Lib.hid hh8
            have HO8 := Lib.hid ho8
            have HR7 := Lib.hid hr7
            clear hb8 hh8 ho8 hg8 hat8 hr7 HVA2 HF2 HLO HR11 HBW
            refine (Sum_h B _ _ HH8.out HPB2.out (by rw [List.length_append]; omega)).mono ?_
            rintro e x9 ⟨rfl, hb9⟩
            have HH9 := Lib.hid (HH8.out.below hb9)
            have HO9 := Lib.hid (HO8.out.kept hb9)
            have HR9 := Lib.hid (HR7.out.below hb9)
            have HBW9 := Lib.hid (HBW8.out.trans (hb9.mono HBW8.out.size))
            have hs9 := hb9.size
            clear hb9 HH8 HO8 HR7 HBW8
            go_wp2_with fail
            rw [show p.length + ys.length = (p ++ ys).length from List.length_append.symm]
            refine (digSum_c A7 c7 _ _ HR9.out HPB2.out (by rw [List.length_append]; omega)).mono ?_
            rintro e x10 ⟨rfl, hb10⟩
            have HH10 := Lib.hid (HH9.out.below hb10)
            have HO10 := Lib.hid (HO9.out.kept hb10)
            have HBW10 := Lib.hid (HBW9.out.trans (hb10.mono HBW9.out.size))
            have hs10 := hb10.size
            clear hb10 HH9 HO9 HR9 HBW9
            go_wp2_with fail
            exact ⟨⟨k + 1, by omega, by go_num, by rw [HFT.out]; exact HH10.out, by rw [HFT.out]; first | exact HO10.out | (have h := HO10.out; rw [List.length_append] at h; exact h), HBW10.out, by omega⟩, by simp [intOf]; omega⟩
          · have h3' : ((k : Int) % 3 == 1) = false := by simp; omega
            have h4' : ¬ (k : Int) % 3 = 1 := by omega
            go_wp2_with (at_builtin; refine append_NNw w1.heap.size rfl (.tmp 37) (.tmp 41) 22 5 .u8 1 rfl Try.underlying22 info_u8 (by decide) u4 p ys A8 c8 rfl rfl HVA2.out HR11.out hw1r HPL2.out ?_; intro v8 x8 ho8 hg8 hat8)
            have hs8 := hg8.size
            have hb8 : Below w.heap.size wr x8 := below_grown (HVA2.out.lower (by omega)) (by omega) hg8
            have hh8 := (HF2.out.move (W' := x8) (hg8.block B (by omega) (fun e => by have := HLO.out B e.symm; omega)) (fun k hk1 hk2 => hg8.block k hk2 (fun e => by have := HLO.out k e.symm; omega))).hh
            obtain ⟨A7, c7, rfl, hc7, _, _, hr7⟩ := ho8.form
            have HBW8 := Lib.hid (HBW.out.trans hb8)
            have HH8 := Lib.hid hh8
            have HO8 := Lib.hid ho8
            have HR7 := Lib.hid hr7
            clear hb8 hh8 ho8 hg8 hat8 hr7 HVA2 HF2 HLO HR11 HBW
            exact ⟨⟨k + 1, by omega, by go_num, by rw [HFT.out]; exact HH8.out, by rw [HFT.out]; first | exact HO8.out | (have h := HO8.out; rw [List.length_append] at h; exact h), HBW8.out, by omega⟩, by simp [intOf]; omega⟩
    · have hd : decide ((k : Int) < css.length) = false := decide_eq_false (by omega)
      obtain rfl : k = css.length := by omega
      rw [List.take_length] at hh hva
      have hbb := HBB.out
      clear HBB H1 HB1 HRR
      obtain ⟨P, hP⟩ : ∃ P, css.flatten = P := ⟨_, rfl⟩
      rw [hP] at hh hva hl hbb
      have HBB := Lib.hid hbb
      have heq : ∀ w, Sem.run Try.prog (binOp BinOp.eql 24 (.agg (shaA P)) (.agg (shaA P))) w = Result.ok (.bool true) w := fun w => heq w P
      have hsum := fun W hh => Sum_h B P W hh hbb (by omega)
      have href := fun A c W hh => refSum_c A c P W hh hbb (by omega)
      obtain ⟨R, hR⟩ : ∃ R, shaA P = R := ⟨_, rfl⟩
      rw [hR] at heq hsum href
      have HSUM := Lib.hid hsum
      have HREF := Lib.hid href
      clear hP hR hbb hne hsum href
      obtain ⟨A7, c7, rfl, hc7, _, _, hr7⟩ := hva.form
      have HHX := Lib.hid hh
      have HR7 := Lib.hid hr7
      clear hh hva hr7
      go_wp2_with fail
      refine (live_c _).mono ?_
      rintro e w6 ⟨rfl, hb6⟩
      have HH6 := Lib.hid (HHX.out.below hb6)
      have HR6 := Lib.hid (HR7.out.below hb6)
      have HB6 := Lib.hid (HW.out.trans (hb6.mono HW.out.size))
      clear hb6 HHX HR7
      go_wp2_with fail
      refine (HSUM.out _ HH6.out).mono ?_
      rintro e w7 ⟨rfl, hb7⟩
      have HH7 := Lib.hid (HH6.out.below hb7)
      have HR7 := Lib.hid (HR6.out.below hb7)
      have HB7 := Lib.hid (HB6.out.trans (hb7.mono HB6.out.size))
      clear hb7 HH6 HR6 HB6
      go_wp2_with fail
      refine (HREF.out A7 c7 _ HR7.out).mono ?_
      rintro e w8 ⟨rfl, hb8⟩
      have HH8 := Lib.hid (HH7.out.below hb8)
      have HB8 := Lib.hid (HB7.out.trans (hb8.mono HB7.out.size))
      clear hb8 HH7 HR7 HB7
      go_wp2_with fail
      refine (Len_h B _ _ HH8.out).mono ?_
      rintro e w9 ⟨rfl, rfl⟩
      go_wp2_with fail
      go_ret
      exact ⟨by simp, HB8.out⟩
end Go.Proofs.Ytdmkfdealedgoaa.F
