/- A cutter's object; a byte taken. -/
import Derived.Test.YtbckibjpaiealaaGs
import Derived.StillTailTactics
set_option linter.unusedVariables false
set_option linter.unusedSimpArgs false
namespace Go.Proofs.Ytbckibjpaiealaa.F
open Go.RowKit Go.Proofs.YtbckibjpaiealaaW.PrintWords

def cuA (mn av mx : Nat) (tb : List Nat) (held : Value) (h : Nat) (en : Bool) : Array Value :=
  (([Value.int .i64 (mn : Int), .int .i64 (av : Int), .int .i64 (mx : Int)] ++ tb.map (encN .u32)) ++ [held, .int .u32 (h : Int), .bool en]).toArray
/-- Block B is a cutter. -/
def CU (W : World) (B : Nat) (mn av mx : Nat) (tb : List Nat) (held : Value) (h : Nat) (en : Bool) : Prop :=
  W.heap[B]? = some (.cells (cuA mn av mx tb held h en) 54 (0, 0))
section
variable {W W' : World} {B mn av mx : Nat} {tb : List Nat} {held : Value} {h : Nat} {en : Bool}
theorem cuA_size (ht : tb.length = 256) : (cuA mn av mx tb held h en).size = 262 := by simp [cuA, ht]
theorem CU.lt (hc : CU W B mn av mx tb held h en) : B < W.heap.size := (Array.getElem?_eq_some_iff.1 hc).1
theorem CU.cell (hc : CU W B mn av mx tb held h en) (k : Nat) : W.cell? ⟨B, k, none⟩ = (cuA mn av mx tb held h en)[k]? := cell_of_row _ _ _ _ _ _ hc
theorem CU.frozen (hc : CU W B mn av mx tb held h en) (k : Nat) : W.frozen? ⟨B, k, none⟩ = false := by simp [World.frozen?, show W.heap[B]? = _ from hc]
theorem CU.gMn (hc : CU W B mn av mx tb held h en) : W.cell? ⟨B, 0, none⟩ = some (.int .i64 (mn : Int)) := by rw [hc.cell]; rfl
theorem CU.gAv (hc : CU W B mn av mx tb held h en) : W.cell? ⟨B, 1, none⟩ = some (.int .i64 (av : Int)) := by rw [hc.cell]; rfl
theorem CU.gMx (hc : CU W B mn av mx tb held h en) : W.cell? ⟨B, 2, none⟩ = some (.int .i64 (mx : Int)) := by rw [hc.cell]; rfl
theorem CU.tab (hc : CU W B mn av mx tb held h en) (i : Nat) (hi : i < tb.length) : W.cell? ⟨B, 3 + i, none⟩ = some (.int .u32 (tb.getD i 0 : Nat)) := by
  rw [hc.cell]
  unfold cuA
  rw [List.getElem?_toArray, List.getElem?_append_left (by simp; omega), List.getElem?_append_right (by simp)]
  simp [hi, encN]
theorem CU.gHeld (hc : CU W B mn av mx tb held h en) (ht : tb.length = 256) : W.cell? ⟨B, 259, none⟩ = some held := by
  rw [hc.cell]; simp [cuA, ht]
theorem CU.gHash (hc : CU W B mn av mx tb held h en) (ht : tb.length = 256) : W.cell? ⟨B, 260, none⟩ = some (.int .u32 (h : Int)) := by
  rw [hc.cell]; simp [cuA, ht]
theorem CU.gEnded (hc : CU W B mn av mx tb held h en) (ht : tb.length = 256) : W.cell? ⟨B, 261, none⟩ = some (.bool en) := by
  rw [hc.cell]; simp [cuA, ht]
theorem CU.move (hc : CU W B mn av mx tb held h en) (hm : W'.heap[B]? = W.heap[B]?) : CU W' B mn av mx tb held h en := hm.trans hc
theorem heap_set_own {a : Array Value} {t : TypeId} {fz : Nat × Nat} (hc : W.heap[B]? = some (.cells a t fz)) (k : Nat) (v : Value) : (W.setCell ⟨B, k, none⟩ v).heap[B]? = some (.cells (a.setIfInBounds k v) t fz) := by
  simp only [World.setCell, Array.getElem?_modify, if_true, hc]
  rfl
theorem CU.setHeld (hc : CU W B mn av mx tb held h en) (ht : tb.length = 256) (v : Value) : CU (W.setCell ⟨B, 259, none⟩ v) B mn av mx tb v h en := by
  rw [CU, heap_set_own hc]
  have : (cuA mn av mx tb held h en).setIfInBounds 259 v = cuA mn av mx tb v h en := by
    simp [cuA, ht]
  rw [this]
theorem CU.setHash (hc : CU W B mn av mx tb held h en) (ht : tb.length = 256) (v : Nat) : CU (W.setCell ⟨B, 260, none⟩ (.int .u32 (v : Int))) B mn av mx tb held v en := by
  rw [CU, heap_set_own hc]
  have : (cuA mn av mx tb held h en).setIfInBounds 260 (.int .u32 (v : Int)) = cuA mn av mx tb held v en := by
    simp [cuA, ht]
  rw [this]
theorem CU.setEnded (hc : CU W B mn av mx tb held h en) (ht : tb.length = 256) (v : Bool) : CU (W.setCell ⟨B, 261, none⟩ (.bool v)) B mn av mx tb held h v := by
  rw [CU, heap_set_own hc]
  have : (cuA mn av mx tb held h en).setIfInBounds 261 (.bool v) = cuA mn av mx tb held h v := by
    simp [cuA, ht]
  rw [this]
end
/-- Only block B, the row's block, and what is new, has turned. -/
structure KB (B : Nat) (r : Option Nat) (W W' : World) : Prop where
  os : W'.os = W.os
  tape : W'.tape = W.tape
  output : W'.output = W.output
  size : W.heap.size ≤ W'.heap.size
  block : ∀ k, k < W.heap.size → k ≠ B → r ≠ some k → W'.heap[k]? = W.heap[k]?

/-- Does a chunk end behind these bytes? -/
def endsAt (mn av mx : Nat) (tb q : List Nat) : Bool := decide (mn ≤ q.length) && (decide (q.length = mx) || decide (ghash tb q < 4294967296 / av))

theorem div_nat (n a : Nat) : (n : Int) / (a : Int) = ((n / a : Nat) : Int) := (Int.natCast_ediv n a).symm
theorem info_cut : (Try.prog.info? 54).map (·.size) = some 262 := by kernel_rfl

set_option maxRecDepth 20000 in
set_option maxHeartbeats 2000000 in
theorem take_c (B mn av mx : Nat) (tb xs : List Nat) (hv : Value) (b : Nat) (W : World) (base : Nat) (ht : tb.length = 256) (hb : b < 256) (hav : 1 ≤ av) (hav2 : av ≤ 256)
    (hc : CU W B mn av mx tb hv (ghash tb xs) false) (ho : OwnN .u8 5 W base hv xs) (hl : xs.length < 140737488355328) (hbase : base ≤ W.heap.size) :
    Calls Try.prog 27 #[.pointer (some ⟨B, 0, none⟩), .int .u8 b] W fun e w' =>
      ∃ hv', e = .returned (.bool (endsAt mn av mx tb (xs ++ [b]))) ∧ CU w' B mn av mx tb hv' (ghash tb (xs ++ [b])) false ∧ OwnN .u8 5 w' base hv' (xs ++ [b]) ∧
        (hv'.ownBlock = hv.ownBlock ∨ ∃ k, hv'.ownBlock = some k ∧ W.heap.size ≤ k) ∧ KB B hv.ownBlock W w' := by
  obtain ⟨A0, c0, hv0, hc0, hr0⟩ := ho.reads
  have k1 := hc.gHeld ht
  have z1 := hc.frozen 259
  have hneB : hv.ownBlock ≠ some B := fun hh => by
    obtain ⟨_, _, cs, hcs⟩ := ho.typed B hh
    have := hcs.symm.trans hc
    simp at this
  have HO := Lib.hid ho
  have HC := Lib.hid hc
  have HV := Lib.hid hv0
  have HN := Lib.hid hneB
  have hlt := hc.lt
  clear ho hc hneB hr0
  rw [hv0] at k1
  have hys : ∃ ys, xs ++ [b] = ys := ⟨_, rfl⟩
  obtain ⟨ys, hys⟩ := hys
  have hyl : ys.length = xs.length + 1 := by rw [← hys]; simp
  have hgh : ghash tb ys = hstep tb (ghash tb xs) b := by rw [← hys]; exact ghash_snoc tb xs b
  rw [hys]
  have HY := Lib.hid hys
  have HYL := Lib.hid hyl
  clear hyl
  have HGH := Lib.hid hgh
  clear hys hgh
  go_enter Try.func27, Try.ntmps27
  go_wp2_with (at_builtin; go_must (refine append_N2 base rfl (.tmp 10) (.tmp 12) 32 5 .u8 1 rfl Try.underlying32 info_u8 (by decide) hv xs b HV.out.symm W.heap.size rfl rfl HO.out hbase (by omega) ?_); intro v1 w1 ho1 hg1 hat1; rw [HY.out] at ho1; obtain ⟨A1, c1, rfl, hc1, hr1⟩ := ho1.reads; have hcu1 := HC.out.move (hg1.block B hlt (fun hh => HN.out hh.symm)); have k2 := hcu1.gHeld ht; have z2 := hcu1.frozen 259; rw [HV.out] at k2; have HO1 := Lib.hid ho1; have HG1 := Lib.hid hg1; have HAT1 := Lib.hid hat1; have HCU1 := Lib.hid hcu1; clear ho1 hg1 hat1 hcu1 hr1)
  clear k2 z2 k1 z1
  obtain ⟨W2, hW2⟩ : ∃ W2, w1.setCell ⟨B, 259, none⟩ (.slice A1 ys.length c1) = W2 := ⟨_, rfl⟩
  have hcu2 : CU W2 B mn av mx tb (.slice A1 ys.length c1) (ghash tb xs) false := by rw [← hW2]; exact HCU1.out.setHeld ht _
  have hkb2 : KB B hv.ownBlock W W2 := by
    have hg1 := HG1.out
    rw [← hW2]
    exact ⟨hg1.os, hg1.tape, hg1.output, by rw [Deep.nblk_setCell]; exact hg1.size, fun k hk hkB hkr => (Deep.blk_setCell_other _ _ _ _ hkB).trans (hg1.block k hk (fun h => hkr h.symm))⟩
  have ho2 : OwnN .u8 5 W2 base (.slice A1 ys.length c1) ys := HO1.out.move (fun k hk => by
    rw [← hW2]
    refine Deep.blk_setCell_other _ _ _ _ (fun hkB => ?_)
    obtain ⟨_, _, cs, hcs⟩ := HO1.out.typed k hk
    subst hkB
    have := hcs.symm.trans HCU1.out
    simp at this)
  have HW2 := Lib.hid hW2
  rw [HW2.out]
  clear hW2
  have k3 := hcu2.gHash ht
  have k4 := hcu2.tab b (by omega)
  have z3 := hcu2.frozen 260
  have hbd : (b : Int) < 256 := by omega
  obtain ⟨t0, ht0⟩ : ∃ t0, tb.getD b 0 = t0 := ⟨_, rfl⟩
  rw [ht0] at k4
  obtain ⟨g0, hg0⟩ : ∃ g0, ghash tb xs = g0 := ⟨_, rfl⟩
  obtain ⟨g, hg⟩ : ∃ g, ghash tb ys = g := ⟨_, rfl⟩
  have hgl : g < 4294967296 := hg ▸ ghash_lt tb ys
  rw [hg] at HGH
  have hval : IntKind.u32.wrap (IntKind.u32.wrap ((g0 : Int) * 2) + (t0 : Int)) = ((g : Nat) : Int) := by
    rw [HGH.out, hg0, hstep, ht0]
    simp [IntKind.wrap, IntKind.bits, IntKind.signed]
    omega
  rw [hg0] at k3
  have HG := Lib.hid hg
  have HG0 := Lib.hid hg0
  have HVAL := Lib.hid hval
  clear hg hg0 hval ht0
  have HCU2 := Lib.hid hcu2
  have HKB2 := Lib.hid hkb2
  have HO2 := Lib.hid ho2
  clear hcu2 hkb2 ho2
  refine wp_region_still_tail 13 (by kernel_rfl) (by kernel_rfl) ?_
  simp only [List.take_succ_cons, List.take_zero, List.drop_succ_cons, List.drop_zero]
  still_step
  still_step
  still_step
  still_step
  still_step
  still_step
  still_step
  still_step
  still_step
  still_step
  still_step
  still_step
  still_step
  refine wpStill_nil ?_
  rw [HVAL.out]
  obtain ⟨W3, hW3⟩ : ∃ W3 : World, ({ heap := W2.heap, tape := W2.tape, drawn := W2.drawn + 1, os := W2.os, output := W2.output } : World) = W3 := ⟨_, rfl⟩
  have hcu3 : CU W3 B mn av mx tb (.slice A1 ys.length c1) (ghash tb xs) false := by rw [← hW3]; exact HCU2.out
  have hcu4 := hcu3.setHash ht g
  rw [hW3]
  obtain ⟨W4, hW4⟩ : ∃ W4, W3.setCell ⟨B, 260, none⟩ (.int .u32 (g : Int)) = W4 := ⟨_, rfl⟩
  rw [hW4] at hcu4
  have hkb4 : KB B hv.ownBlock W W4 := by
    have h := HKB2.out
    rw [← hW4, ← hW3]
    exact ⟨h.os, h.tape, h.output, by rw [Deep.nblk_setCell]; exact h.size, fun k hk hkB hkr => (Deep.blk_setCell_other _ _ _ _ hkB).trans (h.block k hk hkB hkr)⟩
  have ho4 : OwnN .u8 5 W4 base (.slice A1 ys.length c1) ys := HO2.out.move (fun k hk => by
    rw [← hW4, ← hW3]
    refine Deep.blk_setCell_other _ _ _ _ (fun hkB => ?_)
    obtain ⟨_, _, cs, hcs⟩ := HO2.out.typed k hk
    subst hkB
    have := hcs.symm.trans HCU2.out
    simp at this)
  have k5 := hcu4.gHeld ht
  have z5 := hcu3.frozen 260
  have k6 : W3.cell? ⟨B, 260, none⟩ = some (.int .u32 (g0 : Int)) := by rw [hcu3.gHash ht, HG0.out]
  have k7 := hcu4.gHash ht
  have k8 := hcu4.gMn
  have k9 := hcu4.gAv
  have k10 := hcu4.gMx
  have HCU4 := Lib.hid hcu4
  have HKB4 := Lib.hid hkb4
  have HO4 := Lib.hid ho4
  have HW4 := Lib.hid hW4
  clear hcu3 hcu4 hkb4 ho4 hW3 hW4 k3 k4 z3 hbd
  go_wp2_with (rw [HW4.out])
  have hpost : ∀ (beta : Bool) (m : Nat), endsAt mn av mx tb ys = beta → ∃ hv', (Ending.returned (.bool beta) : Ending) = .returned (.bool (endsAt mn av mx tb ys)) ∧ CU (W4.drewN m) B mn av mx tb hv' (ghash tb ys) false ∧ OwnN .u8 5 (W4.drewN m) base hv' ys ∧
        (hv'.ownBlock = hv.ownBlock ∨ ∃ k, hv'.ownBlock = some k ∧ W.heap.size ≤ k) ∧ KB B hv.ownBlock W (W4.drewN m) := fun beta m hb2 => by
    have h := HKB4.out
    exact ⟨_, by rw [hb2], by rw [HG.out]; exact HCU4.out, HO4.out.move (fun _ _ => rfl), HAT1.out, ⟨h.os, h.tape, h.output, h.size, h.block⟩⟩
  have HP := Lib.hid hpost
  clear hpost
  have hends : endsAt mn av mx tb ys = (decide (mn ≤ ys.length) && (decide (ys.length = mx) || decide (g < 4294967296 / av))) := by rw [endsAt, HG.out]
  have HE := Lib.hid hends
  clear hends
  by_cases hmn : mn ≤ ys.length
  · have hd : decide (mn ≤ ys.length) = true := decide_eq_true hmn
    by_cases hmx : ys.length = mx
    · have he : ((ys.length : Int) == mx) = true := by simp [hmx]
      have HM := Lib.hid hmx
      have HN2 := Lib.hid hmn
      clear hmx hmn
      go_quiet (fail)
      go_wp2_with fail
      go_ret
      exact HP.out true _ (by rw [HE.out, decide_eq_true HN2.out, decide_eq_true HM.out]; rfl)
    · have he : ((ys.length : Int) == mx) = false := beq_eq_false_iff_ne.2 (by omega)
      have HM := Lib.hid hmx
      have HN2 := Lib.hid hmn
      clear hmx hmn
      have w1 := id_u64 g (by omega)
      have w2 := id_u64 av (by omega)
      have hav0 : ((av : Int) == 0) = false := beq_eq_false_iff_ne.2 (by omega)
      go_quiet (fail)
      go_wp2_with fail
      go_ret
      have hdd : (4294967296 : Int) / (av : Int) = ((4294967296 / av : Nat) : Int) := div_nat 4294967296 av
      refine HP.out (decide ((g : Int) < 4294967296 / (av : Int))) _ ?_
      rw [HE.out, decide_eq_true HN2.out, decide_eq_false HM.out, hdd, Bool.true_and, Bool.false_or]
      exact decide_eq_decide.2 (by omega)
  · have hd : decide (mn ≤ ys.length) = false := decide_eq_false hmn
    have HN2 := Lib.hid hmn
    clear hmn
    go_quiet (fail)
    go_wp2_with fail
    go_ret
    exact HP.out false _ (by rw [HE.out, decide_eq_false HN2.out]; rfl)
end Go.Proofs.Ytbckibjpaiealaa.F
