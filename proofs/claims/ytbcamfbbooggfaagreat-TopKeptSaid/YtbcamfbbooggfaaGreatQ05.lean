/- Part 5 of the proof: TDm. -/
import Derived.Test.YtbcamfbbooggfaaGreatQ04

/- A state behind a block, walked. -/
set_option linter.unusedVariables false
set_option linter.unusedSimpArgs false
set_option maxRecDepth 20000
namespace Go.Proofs.YtbcamfbbooggfaaGreat.F
open Go.RowKit Go.Proofs.YtbcamfbbooggfaaGreatW.PrintWords

/-- An array of 8 words, each told by its place. -/
def tabG (f : Nat → Nat) : Array Value := tabA ((List.range 8).map f)
theorem tabG_size (f : Nat → Nat) : (tabG f).size = 8 := by simp [tabG, tabA]
theorem tabG_get (f : Nat → Nat) (i : Nat) (h : i < 8) : (tabG f)[i]? = some (.int .u32 (f i : Nat)) := by
  unfold tabG
  rw [tabA_get _ _ (by simpa using h)]
  simp
theorem tabG_set (f : Nat → Nat) (i x : Nat) (h : i < 8) : (tabG f).setIfInBounds i (.int .u32 (x : Nat)) = tabG (upd f i x) := by
  apply Array.ext_getElem?
  intro j
  by_cases hj : j < 8
  · rw [tabG_get _ j hj]
    by_cases e : i = j
    · subst e
      rw [Array.getElem?_setIfInBounds_self_of_lt (by rw [tabG_size]; exact hj)]
      simp [upd]
    · rw [Array.getElem?_setIfInBounds_ne e, tabG_get _ j hj]
      simp [upd, Ne.symm e]
  · rw [Array.getElem?_eq_none (by simp [tabG_size]; omega), Array.getElem?_eq_none (by rw [tabG_size]; omega)]
theorem tabG_store {W : World} {g t : Nat} {f : Nat → Nat} {i x : Nat} (h : W.heap[g]? = some (.cells (tabG f) t (0, 0))) (hi : i < 8) :
    (W.setCell ⟨g, i, none⟩ (.int .u32 (x : Nat))).heap[g]? = some (.cells (tabG (upd f i x)) t (0, 0)) := by
  rw [heap_setCell_same _ _ _ _ _ _ h, tabG_set f i x hi]
theorem tabG_cell {W : World} {g t : Nat} {f : Nat → Nat} (h : W.heap[g]? = some (.cells (tabG f) t (0, 0))) (i : Nat) (hi : i < 8) : W.cell? ⟨g, i, none⟩ = some (.int .u32 (f i : Nat)) := by
  rw [cell_of_row _ _ _ _ _ _ h]; exact tabG_get f i hi
theorem tabG_free {W : World} {g t : Nat} {f : Nat → Nat} (h : W.heap[g]? = some (.cells (tabG f) t (0, 0))) (i : Nat) : W.frozen? ⟨g, i, none⟩ = false := frozen_of_row _ _ _ _ _ h
def St.at (s : St) : Nat → Nat
  | 0 => s.a
  | 1 => s.b
  | 2 => s.c
  | 3 => s.d
  | 4 => s.e
  | 5 => s.f
  | 6 => s.g
  | 7 => s.h
  | _ => 0
theorem St.at_lt {s : St} (h : s.ok) (i : Nat) : s.at i < 4294967296 := by
  obtain ⟨h1, h2, h3, h4, h5, h6, h7, h8⟩ := h
  unfold St.at
  split <;> first | assumption | omega
def addA (s v : St) (i : Nat) : Nat → Nat := fun j => if j < i then (s.at j + v.at j) % 4294967296 else s.at j
theorem addA_zero (s v : St) : addA s v 0 = s.at := by funext j; simp [addA]
theorem addA_at (s v : St) (i : Nat) : addA s v i i = s.at i := by simp [addA]
theorem addA_step (s v : St) (i : Nat) : upd (addA s v i) i ((s.at i + v.at i) % 4294967296) = addA s v (i + 1) := by
  funext j
  unfold upd addA
  by_cases h : j = i
  · subst h; simp
  · rw [if_neg h]
    by_cases h1 : j < i
    · rw [if_pos h1, if_pos (by omega)]
    · rw [if_neg h1, if_neg (by omega)]
def zeros8 : Array Value := Array.replicate 8 (.int .u32 0)
theorem zero8 : ∀ W : World, Sem.run Tryz.prog (zeroValue 178) W = .ok (.agg zeros8) W := fun _ => by kernel_rfl
theorem info8 : (Tryz.prog.info? 178).map (·.size) = some 8 := by kernel_rfl
def St.val (s : St) : Array Value := #[.int .u32 s.a, .int .u32 s.b, .int .u32 s.c, .int .u32 s.d, .int .u32 s.e, .int .u32 s.f, .int .u32 s.g, .int .u32 s.h]
theorem St.val_size (s : St) : s.val.size = 8 := rfl
theorem St.val_one (s : St) : s.val.all (·.oneCell') = true := by simp [St.val, Value.oneCell']
/-- The region that makes the words, the rounds' words and the state's copy: what holds whatever has been done. -/
structure MixI (w0 : World) (N : Nat) (t64 t8 : TypeId) (S T1 T2 : Array Value) (sl : Value) (f0 f1 f2 f3 f4 f5 f6 f7 f8 f9 : Bool) (x5 x6 x7 x18 x19 x20 x21 : Value) (W : World) : Prop where
  below : Below N w0 W
  size : N ≤ W.heap.size
  d7 : f7 = true → f4 = true
  d8 : f8 = true → f5 = true
  d9 : f9 = true → f6 = true
  v0 : f0 = true → x18 = sl
  v1 : f1 = true → x19 = .agg T1
  v2 : f2 = true → x20 = .agg T2
  v3 : f3 = true → x21 = .agg S
  v4 : f4 = true → ∃ b, x5 = .pointer (some ⟨b, 0, none⟩) ∧ N ≤ b ∧ b < W.heap.size ∧ W.heap[b]? = some (.cells (if f7 then T1 else zeros64) t64 (0, 0))
  v5 : f5 = true → ∃ b, x6 = .pointer (some ⟨b, 0, none⟩) ∧ N ≤ b ∧ b < W.heap.size ∧ W.heap[b]? = some (.cells (if f8 then T2 else zeros64) t64 (0, 0))
  v6 : f6 = true → ∃ b, x7 = .pointer (some ⟨b, 0, none⟩) ∧ N ≤ b ∧ b < W.heap.size ∧ W.heap[b]? = some (.cells (if f9 then S else zeros8) t8 (0, 0))
  ne : f4 = true → f5 = true → x5 ≠ x6
theorem MixI.move {w0 W W' : World} {N : Nat} {t64 t8 : TypeId} {S T1 T2 : Array Value} {sl : Value} {f0 f1 f2 f3 f4 f5 f6 f7 f8 f9 : Bool} {x5 x6 x7 x18 x19 x20 x21 : Value} (h : MixI w0 N t64 t8 S T1 T2 sl f0 f1 f2 f3 f4 f5 f6 f7 f8 f9 x5 x6 x7 x18 x19 x20 x21 W)
    (hb : Below W.heap.size W W') : MixI w0 N t64 t8 S T1 T2 sl f0 f1 f2 f3 f4 f5 f6 f7 f8 f9 x5 x6 x7 x18 x19 x20 x21 W' := by
  obtain ⟨h1, h2, a1, a2, a3, a4, a5, a6, a7, b4, b5, b6, b7⟩ := h
  have hs := hb.size
  refine ⟨h1.trans (hb.mono h2), by omega, a1, a2, a3, a4, a5, a6, a7, fun h => ?_, fun h => ?_, fun h => ?_, b7⟩
  · obtain ⟨b, e1, e2, e3, e4⟩ := b4 h; exact ⟨b, e1, e2, by omega, (hb.block b e3).trans e4⟩
  · obtain ⟨b, e1, e2, e3, e4⟩ := b5 h; exact ⟨b, e1, e2, by omega, (hb.block b e3).trans e4⟩
  · obtain ⟨b, e1, e2, e3, e4⟩ := b6 h; exact ⟨b, e1, e2, by omega, (hb.block b e3).trans e4⟩

theorem wp_store_row {P : Program} {o : Oper} {a : Act} {w : World} {K : Act → World → Prop} {Q : Exit → Act → World → Prop} (ty : TypeId) (p x : Operand) (ho : o.op = .store ty p x) (g : Nat) (hp : a.eval p = .pointer (some ⟨g, 0, none⟩)) (cs old : Array Value) (hx : a.eval x = .agg cs)
    (t : TypeId) (hg : w.heap[g]? = some (.cells old t (0, 0))) (hi : (P.info? ty).map (·.size) = some cs.size) (hs : old.size = cs.size) (h1 : cs.all (·.oneCell') = true)
    (h : K (a.put o.dst undef) (w.setRow g cs)) : o.wp P a w K Q := by
  unfold Oper.wp execOp
  simp only [ho, hp, hx, Instr.storeAt, Instr.sureAddr, Sem.run_bind, Sem.run_pure, Result.andThen_ok, run_storeVar_row w g t ty old cs hg hi hs h1]
  exact h
theorem block_ne {W : World} {b b' : Nat} {c c' : Array Value} {t t' : TypeId} {z z' : Nat × Nat} (h : W.heap[b]? = some (.cells c t z)) (h' : W.heap[b']? = some (.cells c' t' z')) (ht : t ≠ t') : b ≠ b' := fun e => by
  subst e
  rw [h] at h'
  injection h' with h'
  injection h' with _ h2 _
  exact ht h2
section
variable {w0 W : World} {N : Nat} {S T1 T2 : Array Value} {sl : Value} {f0 f1 f2 f3 f4 f5 f6 f7 f8 f9 : Bool} {x5 x6 x7 x18 x19 x20 x21 : Value} {t64 t8 : TypeId} {b : Nat}
theorem MixI.store7 (h : MixI w0 N 220 178 S T1 T2 sl f0 true f2 f3 true f5 f6 false f8 f9 (.pointer (some ⟨b, 0, none⟩)) x6 x7 x18 x19 x20 x21 W) (hb1 : N ≤ b) (hb3 : W.heap[b]? = some (.cells zeros64 220 (0, 0))) :
    MixI w0 N 220 178 S T1 T2 sl f0 true f2 f3 true f5 f6 true f8 f9 (.pointer (some ⟨b, 0, none⟩)) x6 x7 x18 x19 x20 x21 (W.setRow b T1) := by
  obtain ⟨h1, h2, a1, a2, a3, a4, a5, a6, a7, b4, b5, b6, b7⟩ := h
  refine ⟨below_setRow h1 hb1 _, by simpa using h2, fun _ => rfl, a2, a3, a4, a5, a6, a7, fun _ => ?_, fun h => ?_, fun h => ?_, b7⟩
  · obtain ⟨b', e1, e2, e3, e4⟩ := b4 rfl
    simp only [Value.pointer.injEq, Option.some.injEq, Addr.mk.injEq, and_true] at e1
    subst e1
    exact ⟨b, rfl, e2, by simpa using e3, setRow_heap _ _ _ _ _ _ hb3⟩
  · obtain ⟨b', e1, e2, e3, e4⟩ := b5 h
    exact ⟨b', e1, e2, by simpa using e3, (setRow_other _ _ _ _ (fun e => b7 rfl h (by rw [e1, e]))).trans e4⟩
  · obtain ⟨b', e1, e2, e3, e4⟩ := b6 h
    exact ⟨b', e1, e2, by simpa using e3, (setRow_other _ _ _ _ (fun e => block_ne hb3 e4 (by decide) e.symm)).trans e4⟩
theorem MixI.store8 (h : MixI w0 N 220 178 S T1 T2 sl f0 f1 true f3 f4 true f6 f7 false f9 x5 (.pointer (some ⟨b, 0, none⟩)) x7 x18 x19 x20 x21 W) (hb1 : N ≤ b) (hb3 : W.heap[b]? = some (.cells zeros64 220 (0, 0))) :
    MixI w0 N 220 178 S T1 T2 sl f0 f1 true f3 f4 true f6 f7 true f9 x5 (.pointer (some ⟨b, 0, none⟩)) x7 x18 x19 x20 x21 (W.setRow b T2) := by
  obtain ⟨h1, h2, a1, a2, a3, a4, a5, a6, a7, b4, b5, b6, b7⟩ := h
  refine ⟨below_setRow h1 hb1 _, by simpa using h2, a1, fun _ => rfl, a3, a4, a5, a6, a7, fun h => ?_, fun _ => ?_, fun h => ?_, b7⟩
  · obtain ⟨b', e1, e2, e3, e4⟩ := b4 h
    exact ⟨b', e1, e2, by simpa using e3, (setRow_other _ _ _ _ (fun e => b7 h rfl (by rw [e1, e]))).trans e4⟩
  · obtain ⟨b', e1, e2, e3, e4⟩ := b5 rfl
    simp only [Value.pointer.injEq, Option.some.injEq, Addr.mk.injEq, and_true] at e1
    subst e1
    exact ⟨b, rfl, e2, by simpa using e3, setRow_heap _ _ _ _ _ _ hb3⟩
  · obtain ⟨b', e1, e2, e3, e4⟩ := b6 h
    exact ⟨b', e1, e2, by simpa using e3, (setRow_other _ _ _ _ (fun e => block_ne hb3 e4 (by decide) e.symm)).trans e4⟩
theorem MixI.store9 (h : MixI w0 N 220 178 S T1 T2 sl f0 f1 f2 true f4 f5 true f7 f8 false x5 x6 (.pointer (some ⟨b, 0, none⟩)) x18 x19 x20 x21 W) (hb1 : N ≤ b) (hb3 : W.heap[b]? = some (.cells zeros8 178 (0, 0))) :
    MixI w0 N 220 178 S T1 T2 sl f0 f1 f2 true f4 f5 true f7 f8 true x5 x6 (.pointer (some ⟨b, 0, none⟩)) x18 x19 x20 x21 (W.setRow b S) := by
  obtain ⟨h1, h2, a1, a2, a3, a4, a5, a6, a7, b4, b5, b6, b7⟩ := h
  refine ⟨below_setRow h1 hb1 _, by simpa using h2, a1, a2, fun _ => rfl, a4, a5, a6, a7, fun h => ?_, fun h => ?_, fun _ => ?_, b7⟩
  · obtain ⟨b', e1, e2, e3, e4⟩ := b4 h
    exact ⟨b', e1, e2, by simpa using e3, (setRow_other _ _ _ _ (fun e => block_ne hb3 e4 (by decide) e.symm)).trans e4⟩
  · obtain ⟨b', e1, e2, e3, e4⟩ := b5 h
    exact ⟨b', e1, e2, by simpa using e3, (setRow_other _ _ _ _ (fun e => block_ne hb3 e4 (by decide) e.symm)).trans e4⟩
  · obtain ⟨b', e1, e2, e3, e4⟩ := b6 rfl
    simp only [Value.pointer.injEq, Option.some.injEq, Addr.mk.injEq, and_true] at e1
    subst e1
    exact ⟨b, rfl, e2, by simpa using e3, setRow_heap _ _ _ _ _ _ hb3⟩
end
set_option maxRecDepth 100000 in
set_option maxHeartbeats 4000000 in
theorem mixed_c (s : St) (A : Option Addr) (c : Nat) (p : List Nat) (w : World) (hs : s.ok) (hr : RN .u8 w A p) (hp : ∀ x ∈ p, x < 256) (hl : p.length = 64) (hc : 64 ≤ c) :
    Calls Tryz.prog 78 #[.agg s.val, .slice A 64 c] w fun e w' => e = .returned (.agg (mixS s p).val) ∧ Below w.heap.size w w' := by
  have hz := zero8
  have hz2 := zero64
  obtain ⟨W0, hW0⟩ : ∃ W0, (w.alloc (.cells s.val 178)).alloc (.cells zeros8 178) = W0 := ⟨_, rfl⟩
  have hg0 : W0.heap[w.heap.size]? = some (.cells s.val 178 (0, 0)) := by rw [← hW0]; exact heap_alloc2_old _ _ _
  have hg1 : W0.heap[w.heap.size + 1]? = some (.cells zeros8 178 (0, 0)) := by rw [← hW0]; exact heap_alloc2_new _ _ _
  have hB0 : Below w.heap.size w W0 := by rw [← hW0]; exact ((Below.refl _ _).alloc (Nat.le_refl _) _).alloc (by simp) _
  have hs0 : W0.heap.size = w.heap.size + 2 := by rw [← hW0]; simp
  have hwc := fun W hb => words_c A c p W ((hr.below hB0).below (hb : Below W0.heap.size W0 W)) hp hl hc
  obtain ⟨T1, hT1⟩ : ∃ T1, tabF (wd p) = T1 := ⟨_, rfl⟩
  rw [hT1] at hwc
  obtain ⟨S, hS⟩ : ∃ S, s.val = S := ⟨_, rfl⟩
  rw [hS] at hg0 hW0 ⊢
  obtain ⟨T2, hT2⟩ : ∃ T2, tabA Kw = T2 := ⟨_, rfl⟩
  have hrc := fun W => rounds_c W
  rw [hT2] at hrc
  have HI8 := Lib.hid (show (Tryz.prog.info? 178).map (·.size) = some S.size by rw [← hS]; exact info8)
  have HIT1 := Lib.hid (show (Tryz.prog.info? 220).map (·.size) = some T1.size by rw [← hT1, tabF_size]; exact info64)
  have HIT2 := Lib.hid (show (Tryz.prog.info? 220).map (·.size) = some T2.size by rw [← hT2, Kw_size]; exact info64)
  have HOS := Lib.hid (show S.all (·.oneCell') = true by rw [← hS]; exact St.val_one _)
  have HOT1 := Lib.hid (show T1.all (·.oneCell') = true by rw [← hT1]; exact tabA_one _)
  have HOT2 := Lib.hid (show T2.all (·.oneCell') = true by rw [← hT2]; exact tabA_one _)
  have HSS := Lib.hid (show zeros8.size = S.size by rw [← hS]; rfl)
  have HST1 := Lib.hid (show zeros64.size = T1.size by rw [← hT1, tabF_size]; simp [zeros64])
  have HST2 := Lib.hid (show zeros64.size = T2.size by rw [← hT2, Kw_size]; simp [zeros64])
  have HWC := Lib.hid hwc
  have HRC := Lib.hid hrc
  have HG0 := Lib.hid hg0
  have HG1 := Lib.hid hg1
  have HW0 := Lib.hid hW0
  have HT1 := Lib.hid hT1
  have HT2 := Lib.hid hT2
  have HS := Lib.hid hS
  clear hwc hrc hg0 hg1 hW0 hT1 hT2 hS
  go_enter Tryz.func78, Tryz.ntmps78
  go_wp2_with fail

  rw [HW0.out]
  refine wp_region_inv (I := fun listed a W => ∃ (f0 f1 f2 f3 f4 f5 f6 f7 f8 f9 : Bool) (x5 x6 x7 x18 x19 x20 x21 : Value), listed = #[f0, f1, f2, f3, f4, f5, f6, f7, f8, f9] ∧ a = { tmps := #[.agg S, .slice A 64 c, .pointer (some ⟨w.heap.size, 0, none⟩), undef, .pointer (some ⟨w.heap.size + 1, 0, none⟩), x5, x6, x7, undef, undef, undef, undef, undef, undef, undef, undef, undef, undef, x18, x19, x20, x21, undef, undef, undef, undef, undef, undef, undef, undef, undef, undef, undef, undef, undef, undef, undef, undef, undef, undef, undef, undef, undef, undef, undef, undef, undef, undef, undef, undef, undef, undef, undef, undef, undef, undef, undef, undef, undef, undef, undef, undef, undef, undef, undef, undef, undef, undef, undef, undef, undef, undef, undef, undef, undef, undef, undef, undef, undef, undef, undef, undef, undef, undef, undef, undef, undef, undef, undef, undef, undef, undef, undef, undef, undef, undef, undef, undef, undef, undef, undef, undef, undef, undef, undef, undef, undef, undef, undef, undef], defers := [] } ∧ MixI W0 W0.heap.size 220 178 S T1 T2 (.slice A 64 c) f0 f1 f2 f3 f4 f5 f6 f7 f8 f9 x5 x6 x7 x18 x19 x20 x21 W) (by kernel_rfl) ?_ ?_ ?_
  · refine ⟨false, false, false, false, false, false, false, false, false, false, undef, undef, undef, undef, undef, undef, undef, rfl, rfl, ?_⟩
    exact ⟨(Below.refl _ _).drew, Nat.le_refl _, fun h => (by cases h), fun h => (by cases h), fun h => (by cases h), fun h => (by cases h), fun h => (by cases h), fun h => (by cases h), fun h => (by cases h), fun h => (by cases h), fun h => (by cases h), fun h => (by cases h), fun h => (by cases h)⟩
  · rintro listed a W i ⟨f0, f1, f2, f3, f4, f5, f6, f7, f8, f9, x5, x6, x7, x18, x19, x20, x21, rfl, rfl, hI⟩ hi
    have hgs : W.heap[w.heap.size]? = some (.cells S 178 (0, 0)) := (hI.below.block _ (by omega)).trans HG0.out
    obtain ⟨hun, o, ho, hdep⟩ := mem_ready.1 hi
    have hi10 : i < 10 := by
      rcases Nat.lt_or_ge i 10 with h | h
      · exact h
      · rw [Array.getD_eq_getD_getElem?, Array.getElem?_eq_none (by simpa using h)] at hun; cases hun
    have HGS := Lib.hid hgs
    clear hgs hi
    rcases i with _ | _ | _ | _ | _ | _ | _ | _ | _ | _ | i
    · clear hdep ho
      refine wpOp_step rfl (fun K hK => ?_)
      go_simp
      exact hK _ _ ⟨true, f1, f2, f3, f4, f5, f6, f7, f8, f9, x5, x6, x7, .slice A 64 c, x19, x20, x21, rfl, rfl, { hI with v0 := fun _ => rfl }⟩
    · cases ho
      have e0 : f0 = true := by simpa [Region.binds] using hdep
      clear hdep
      subst e0
      obtain rfl := hI.v0 rfl
      refine wpOp_step rfl (fun K hK => ?_)
      go_simp
      refine (HWC.out _ hI.below).mono ?_
      rintro e w' ⟨rfl, hb⟩
      exact hK _ _ ⟨true, true, f2, f3, f4, f5, f6, f7, f8, f9, x5, x6, x7, _, .agg T1, x20, x21, rfl, rfl, { hI.move hb with v1 := fun _ => rfl }⟩
    · clear hdep ho
      refine wpOp_step rfl (fun K hK => ?_)
      go_simp
      refine (HRC.out _).mono ?_
      rintro e w' ⟨rfl, hb⟩
      exact hK _ _ ⟨f0, f1, true, f3, f4, f5, f6, f7, f8, f9, x5, x6, x7, x18, x19, .agg T2, x21, rfl, rfl, { hI.move hb with v2 := fun _ => rfl }⟩
    · clear hdep ho
      refine wpOp_step rfl (fun K hK => ?_)
      rw [if_pos (show Region.wanted _ _ = true from rfl)]
      refine wp_load_row 178 (.tmp 2) rfl w.heap.size rfl 178 S (0, 0) _ HGS.out Tryz.underlying178 rfl HI8.out ?_
      exact hK _ _ ⟨f0, f1, f2, true, f4, f5, f6, f7, f8, f9, x5, x6, x7, x18, x19, x20, .agg S, rfl, rfl, { hI with v3 := fun _ => rfl }⟩
    · clear hdep ho
      have hf : f4 = false := hun
      have hf2 : f7 = false := by
        cases h : f7 with
        | false => rfl
        | true => exact absurd (hI.d7 h) (by rw [hf]; decide)
      subst hf hf2
      have hm := hI.move ((Below.refl _ _).alloc (Nat.le_refl _) (.cells zeros64 220))
      refine wpOp_step rfl (fun K hK => ?_)
      go_simp
      refine hK _ _ ⟨f0, f1, f2, f3, true, f5, f6, false, f8, f9, .pointer (some ⟨W.heap.size, 0, none⟩), x6, x7, x18, x19, x20, x21, rfl, rfl, { hm with d7 := fun _ => rfl, v4 := fun _ => ⟨W.heap.size, rfl, hI.size, by simp, heap_alloc_new _ _⟩, ne := ?_ }⟩
      · intro _ h5 he
        obtain ⟨b, e1, _, hb, _⟩ := hI.v5 h5
        rw [e1] at he
        simp at he
        try omega
    · clear hdep ho
      have hf : f5 = false := hun
      have hf2 : f8 = false := by
        cases h : f8 with
        | false => rfl
        | true => exact absurd (hI.d8 h) (by rw [hf]; decide)
      subst hf hf2
      have hm := hI.move ((Below.refl _ _).alloc (Nat.le_refl _) (.cells zeros64 220))
      refine wpOp_step rfl (fun K hK => ?_)
      go_simp
      refine hK _ _ ⟨f0, f1, f2, f3, f4, true, f6, f7, false, f9, x5, .pointer (some ⟨W.heap.size, 0, none⟩), x7, x18, x19, x20, x21, rfl, rfl, { hm with d8 := fun _ => rfl, v5 := fun _ => ⟨W.heap.size, rfl, hI.size, by simp, heap_alloc_new _ _⟩, ne := ?_ }⟩
      · intro h4 _ he
        obtain ⟨b, e1, _, hb, _⟩ := hI.v4 h4
        rw [e1] at he
        simp at he
        try omega
    · clear hdep ho
      have hf : f6 = false := hun
      have hf2 : f9 = false := by
        cases h : f9 with
        | false => rfl
        | true => exact absurd (hI.d9 h) (by rw [hf]; decide)
      subst hf hf2
      have hm := hI.move ((Below.refl _ _).alloc (Nat.le_refl _) (.cells zeros8 178))
      refine wpOp_step rfl (fun K hK => ?_)
      go_simp
      refine hK _ _ ⟨f0, f1, f2, f3, f4, f5, true, f7, f8, false, x5, x6, .pointer (some ⟨W.heap.size, 0, none⟩), x18, x19, x20, x21, rfl, rfl, { hm with d9 := fun _ => rfl, v6 := fun _ => ⟨W.heap.size, rfl, hI.size, by simp, heap_alloc_new _ _⟩ }⟩
    · cases ho
      have e0 : f4 = true ∧ f1 = true := by simp [Region.binds] at hdep; simp [hdep]
      have hf : f7 = false := hun
      clear hdep
      obtain ⟨rfl, rfl⟩ := e0
      subst hf
      obtain ⟨b, e1, hb1, hb2, hb3⟩ := hI.v4 rfl
      subst e1
      obtain rfl := hI.v1 rfl
      replace hb3 : W.heap[b]? = some (.cells zeros64 220 (0, 0)) := hb3
      refine wpOp_step rfl (fun K hK => ?_)
      rw [if_pos (show Region.wanted _ _ = true from rfl)]
      refine wp_store_row 220 (.tmp 5) (.tmp 19) rfl b rfl T1 zeros64 rfl 220 hb3 HIT1.out HST1.out HOT1.out ?_
      exact hK _ _ ⟨f0, true, f2, f3, true, f5, f6, true, f8, f9, _, x6, x7, x18, _, x20, x21, rfl, rfl, hI.store7 hb1 hb3⟩
    · cases ho
      have e0 : f5 = true ∧ f2 = true := by simp [Region.binds] at hdep; simp [hdep]
      have hf : f8 = false := hun
      clear hdep
      obtain ⟨rfl, rfl⟩ := e0
      subst hf
      obtain ⟨b, e1, hb1, hb2, hb3⟩ := hI.v5 rfl
      subst e1
      obtain rfl := hI.v2 rfl
      replace hb3 : W.heap[b]? = some (.cells zeros64 220 (0, 0)) := hb3
      refine wpOp_step rfl (fun K hK => ?_)
      rw [if_pos (show Region.wanted _ _ = true from rfl)]
      refine wp_store_row 220 (.tmp 6) (.tmp 20) rfl b rfl T2 zeros64 rfl 220 hb3 HIT2.out HST2.out HOT2.out ?_
      exact hK _ _ ⟨f0, f1, true, f3, f4, true, f6, f7, true, f9, x5, _, x7, x18, x19, _, x21, rfl, rfl, hI.store8 hb1 hb3⟩
    · cases ho
      have e0 : f6 = true ∧ f3 = true := by simp [Region.binds] at hdep; simp [hdep]
      have hf : f9 = false := hun
      clear hdep
      obtain ⟨rfl, rfl⟩ := e0
      subst hf
      obtain ⟨b, e1, hb1, hb2, hb3⟩ := hI.v6 rfl
      subst e1
      obtain rfl := hI.v3 rfl
      replace hb3 : W.heap[b]? = some (.cells zeros8 178 (0, 0)) := hb3
      refine wpOp_step rfl (fun K hK => ?_)
      rw [if_pos (show Region.wanted _ _ = true from rfl)]
      refine wp_store_row 178 (.tmp 7) (.tmp 21) rfl b rfl S zeros8 rfl 178 hb3 HI8.out HSS.out HOS.out ?_
      exact hK _ _ ⟨f0, f1, f2, true, f4, f5, true, f7, f8, true, x5, x6, _, x18, x19, x20, _, rfl, rfl, hI.store9 hb1 hb3⟩
    · omega
  · rintro listed a W ⟨f0, f1, f2, f3, f4, f5, f6, f7, f8, f9, x5, x6, x7, x18, x19, x20, x21, rfl, rfl, hI⟩ hi
    have e0 : f0 = true := by
      have hn : ∀ j : Nat, ¬ j ∈ ([] : List Nat) := by simp
      rw [← hi] at hn
      have h := hn 0
      rw [mem_ready] at h
      simpa [Region.binds] using h
    subst e0
    have e4 : f4 = true := by
      have hn : ∀ j : Nat, ¬ j ∈ ([] : List Nat) := by simp
      rw [← hi] at hn
      have h := hn 4
      rw [mem_ready] at h
      simpa [Region.binds] using h
    subst e4
    have e5 : f5 = true := by
      have hn : ∀ j : Nat, ¬ j ∈ ([] : List Nat) := by simp
      rw [← hi] at hn
      have h := hn 5
      rw [mem_ready] at h
      simpa [Region.binds] using h
    subst e5
    have e6 : f6 = true := by
      have hn : ∀ j : Nat, ¬ j ∈ ([] : List Nat) := by simp
      rw [← hi] at hn
      have h := hn 6
      rw [mem_ready] at h
      simpa [Region.binds] using h
    subst e6
    have e1 : f1 = true := by
      have hn : ∀ j : Nat, ¬ j ∈ ([] : List Nat) := by simp
      rw [← hi] at hn
      have h := hn 1
      rw [mem_ready] at h
      simpa [Region.binds] using h
    subst e1
    have e2 : f2 = true := by
      have hn : ∀ j : Nat, ¬ j ∈ ([] : List Nat) := by simp
      rw [← hi] at hn
      have h := hn 2
      rw [mem_ready] at h
      simpa [Region.binds] using h
    subst e2
    have e3 : f3 = true := by
      have hn : ∀ j : Nat, ¬ j ∈ ([] : List Nat) := by simp
      rw [← hi] at hn
      have h := hn 3
      rw [mem_ready] at h
      simpa [Region.binds] using h
    subst e3
    have e7 : f7 = true := by
      have hn : ∀ j : Nat, ¬ j ∈ ([] : List Nat) := by simp
      rw [← hi] at hn
      have h := hn 7
      rw [mem_ready] at h
      simpa [Region.binds] using h
    subst e7
    have e8 : f8 = true := by
      have hn : ∀ j : Nat, ¬ j ∈ ([] : List Nat) := by simp
      rw [← hi] at hn
      have h := hn 8
      rw [mem_ready] at h
      simpa [Region.binds] using h
    subst e8
    have e9 : f9 = true := by
      have hn : ∀ j : Nat, ¬ j ∈ ([] : List Nat) := by simp
      rw [← hi] at hn
      have h := hn 9
      rw [mem_ready] at h
      simpa [Region.binds] using h
    subst e9
    clear hi
    obtain ⟨b5, rfl, h51, h52, h53⟩ := hI.v4 rfl
    obtain ⟨b6, rfl, h61, h62, h63⟩ := hI.v5 rfl
    obtain ⟨b7, rfl, h71, h72, h73⟩ := hI.v6 rfl
    have hbW := hI.below
    have hn2 : w.heap.size ≠ b7 := by omega
    replace h53 : W.heap[b5]? = some (.cells T1 220 (0, 0)) := h53
    replace h63 : W.heap[b6]? = some (.cells T2 220 (0, 0)) := h63
    replace h73 : W.heap[b7]? = some (.cells S 178 (0, 0)) := h73
    have n57 := block_ne h53 h73 (by decide)
    have n67 := block_ne h63 h73 (by decide)
    obtain ⟨x18', rfl⟩ : ∃ x, x = x18 := ⟨_, rfl⟩
    obtain rfl := hI.v1 rfl
    obtain rfl := hI.v2 rfl
    obtain rfl := hI.v3 rfl
    clear hI
    have hw2 : W0.heap.size = w.heap.size + 2 := hs0
    have g2 : W.heap[w.heap.size]? = some (.cells S 178 (0, 0)) := (hbW.block _ (by omega)).trans HG0.out
    have g4 : W.heap[w.heap.size + 1]? = some (.cells zeros8 178 (0, 0)) := (hbW.block _ (by omega)).trans HG1.out
    have hB1 : Below w.heap.size w W := hB0.trans (hbW.mono (by omega))
    rw [← HS.out] at h73
    have h53h := Lib.hid h53
    have h63h := Lib.hid h63
    have h73h := Lib.hid h73
    have g2h := Lib.hid g2
    have g4h := Lib.hid g4
    have N57 := Lib.hid n57
    have N67 := Lib.hid n67
    have N27 := Lib.hid hn2
    have h7le : w.heap.size ≤ b7 := by omega
    have N7 := Lib.hid h7le
    have N47 : Hid (w.heap.size + 1 ≠ b7) := Lib.hid (by omega)
    clear h53 h63 h73 g2 g4 hw2 hbW hs0 hn2 n57 n67
    go_wp2_with fail
    go_loopw [22] (fun vt W => ∃ t : Nat, t ≤ 64 ∧ vt = .int .i64 t ∧ W.heap[b7]? = some (.cells (rnds s p t).val 178 (0, 0)) ∧ W.heap[b5]? = some (.cells T1 220 (0, 0)) ∧ W.heap[b6]? = some (.cells T2 220 (0, 0)) ∧ W.heap[w.heap.size]? = some (.cells S 178 (0, 0)) ∧ W.heap[w.heap.size + 1]? = some (.cells zeros8 178 (0, 0)) ∧ Below w.heap.size w W) (fun vt _ => 64 - (intOf vt).toNat)
    case atStart => exact ⟨0, by omega, rfl, by rw [show rnds s p 0 = s from rfl]; exact h73h.out, h53h.out, h63h.out, g2h.out, g4h.out, hB1⟩
    case round =>
      obtain ⟨t, ht, rfl, k7, k5, k6, k2, k4, hW⟩ := hrel
      have hok := rnds_ok s p hs t
      by_cases hlt : t < 64
      · have hd : decide ((t : Int) < 64) = true := by simp; omega
        have hnext : rnds s p (t + 1) = rnd (rnds s p t) (Kw.getD t 0) (wd p t) := rfl
        obtain ⟨v, hv⟩ : ∃ v, rnds s p t = v := ⟨_, rfl⟩
        rw [hv] at k7 hok hnext
        clear hv
        obtain ⟨va, vb, vc, vd, ve, vf, vg, vh⟩ := v
        obtain ⟨la, lb, lc, ld, le, lf, lg, lh⟩ := hok
        dsimp only at la lb lc ld le lf lg lh
        have hw5 : wr.cell? ⟨b5, t, none⟩ = some (.int .u32 (wd p t : Nat)) := by rw [cell_of_row _ _ _ _ _ _ k5, ← HT1.out]; exact tabF_get _ t hlt
        have hw6 : wr.cell? ⟨b6, t, none⟩ = some (.int .u32 (Kw.getD t 0 : Nat)) := by
          rw [cell_of_row _ _ _ _ _ _ k6, ← HT2.out]
          have h64 : t < Kw.length := hlt
          rw [tabA_get _ t h64, List.getD_eq_getElem?_getD, List.getElem?_eq_getElem h64]; rfl
        have lk : Kw.getD t 0 < 4294967296 := getD_lt (by omega) (by decide) t
        have lw := wd_lt hp t
        obtain ⟨kt, hkt⟩ : ∃ x, Kw.getD t 0 = x := ⟨_, rfl⟩
        obtain ⟨wt, hwt⟩ : ∃ x, wd p t = x := ⟨_, rfl⟩
        rw [hkt] at hw6 lk hnext
        rw [hwt] at hw5 lw hnext
        clear hkt hwt
        have c0 : wr.cell? ⟨b7, 0, none⟩ = some (.int .u32 (va : Nat)) := by rw [cell_of_row _ _ _ _ _ _ k7]; rfl
        have c1 : wr.cell? ⟨b7, 1, none⟩ = some (.int .u32 (vb : Nat)) := by rw [cell_of_row _ _ _ _ _ _ k7]; rfl
        have c2 : wr.cell? ⟨b7, 2, none⟩ = some (.int .u32 (vc : Nat)) := by rw [cell_of_row _ _ _ _ _ _ k7]; rfl
        have c3 : wr.cell? ⟨b7, 3, none⟩ = some (.int .u32 (vd : Nat)) := by rw [cell_of_row _ _ _ _ _ _ k7]; rfl
        have c4 : wr.cell? ⟨b7, 4, none⟩ = some (.int .u32 (ve : Nat)) := by rw [cell_of_row _ _ _ _ _ _ k7]; rfl
        have c5 : wr.cell? ⟨b7, 5, none⟩ = some (.int .u32 (vf : Nat)) := by rw [cell_of_row _ _ _ _ _ _ k7]; rfl
        have c6 : wr.cell? ⟨b7, 6, none⟩ = some (.int .u32 (vg : Nat)) := by rw [cell_of_row _ _ _ _ _ _ k7]; rfl
        have c7 : wr.cell? ⟨b7, 7, none⟩ = some (.int .u32 (vh : Nat)) := by rw [cell_of_row _ _ _ _ _ _ k7]; rfl
        have HK7 := Lib.hid k7
        have HK5 := Lib.hid k5
        have HK6 := Lib.hid k6
        have HK2 := Lib.hid k2
        have HK4 := Lib.hid k4
        have HNX := Lib.hid hnext
        clear k7 k5 k6 k2 k4 hnext
        have T6 : Hid (∀ w, Calls Tryz.prog 119 #[.int .u32 ve, .int .i64 6] w fun e w' => e = .returned (.int .u32 (rotr ve 6 : Nat)) ∧ w' = w) := Lib.hid fun w => turn_c ve 6 w le (by omega) (by omega)
        have T11 : Hid (∀ w, Calls Tryz.prog 119 #[.int .u32 ve, .int .i64 11] w fun e w' => e = .returned (.int .u32 (rotr ve 11 : Nat)) ∧ w' = w) := Lib.hid fun w => turn_c ve 11 w le (by omega) (by omega)
        have T25 : Hid (∀ w, Calls Tryz.prog 119 #[.int .u32 ve, .int .i64 25] w fun e w' => e = .returned (.int .u32 (rotr ve 25 : Nat)) ∧ w' = w) := Lib.hid fun w => turn_c ve 25 w le (by omega) (by omega)
        have T2_ : Hid (∀ w, Calls Tryz.prog 119 #[.int .u32 va, .int .i64 2] w fun e w' => e = .returned (.int .u32 (rotr va 2 : Nat)) ∧ w' = w) := Lib.hid fun w => turn_c va 2 w la (by omega) (by omega)
        have T13 : Hid (∀ w, Calls Tryz.prog 119 #[.int .u32 va, .int .i64 13] w fun e w' => e = .returned (.int .u32 (rotr va 13 : Nat)) ∧ w' = w) := Lib.hid fun w => turn_c va 13 w la (by omega) (by omega)
        have T22 : Hid (∀ w, Calls Tryz.prog 119 #[.int .u32 va, .int .i64 22] w fun e w' => e = .returned (.int .u32 (rotr va 22 : Nat)) ∧ w' = w) := Lib.hid fun w => turn_c va 22 w la (by omega) (by omega)
        have r6 := rotr_lt ve 6 le
        have r11 := rotr_lt ve 11 le
        have r25 := rotr_lt ve 25 le
        have r2 := rotr_lt va 2 la
        have r13 := rotr_lt va 13 la
        have r22 := rotr_lt va 22 la
        have b1l : rotr ve 6 ^^^ rotr ve 11 < 4294967296 := Nat.xor_lt_two_pow (n := 32) r6 r11
        have b0l : rotr va 2 ^^^ rotr va 13 < 4294967296 := Nat.xor_lt_two_pow (n := 32) r2 r13
        have y1 := u32_xor_nat (rotr ve 6) (rotr ve 11) r6 r11
        have y2 : Go.bits .xor .u32 _ _ = ((big1 ve : Nat) : Int) := u32_xor_nat (rotr ve 6 ^^^ rotr ve 11) (rotr ve 25) b1l r25
        have y3 := u32_xor_nat (rotr va 2) (rotr va 13) r2 r13
        have y4 : Go.bits .xor .u32 _ _ = ((big0 va : Nat) : Int) := u32_xor_nat (rotr va 2 ^^^ rotr va 13) (rotr va 22) b0l r22
        have lb1 : big1 ve < 4294967296 := Nat.xor_lt_two_pow (n := 32) b1l r25
        have lb0 : big0 va < 4294967296 := Nat.xor_lt_two_pow (n := 32) b0l r22
        have fgl : vf ^^^ vg < 4294967296 := Nat.xor_lt_two_pow (n := 32) lf lg
        have y5 := u32_xor_nat vf vg lf lg
        have y6 := u32_and_nat ve (vf ^^^ vg) le fgl
        have egl : ve &&& (vf ^^^ vg) < 4294967296 := Nat.and_lt_two_pow (n := 32) _ fgl
        have y7 : Go.bits .xor .u32 _ _ = ((cho ve vf vg : Nat) : Int) := u32_xor_nat vg (ve &&& (vf ^^^ vg)) lg egl
        have lch : cho ve vf vg < 4294967296 := Nat.xor_lt_two_pow (n := 32) lg egl
        have bcl : vb ||| vc < 4294967296 := Nat.or_lt_two_pow (n := 32) lb lc
        have y8 := u32_or_nat vb vc lb lc
        have y9 := u32_and_nat va (vb ||| vc) la bcl
        have y10 := u32_and_nat vb vc lb lc
        have abl : va &&& (vb ||| vc) < 4294967296 := Nat.and_lt_two_pow (n := 32) _ bcl
        have bcl2 : vb &&& vc < 4294967296 := Nat.and_lt_two_pow (n := 32) _ lc
        have y11 : Go.bits .or .u32 _ _ = ((maj va vb vc : Nat) : Int) := u32_or_nat (va &&& (vb ||| vc)) (vb &&& vc) abl bcl2
        have lmj : maj va vb vc < 4294967296 := Nat.or_lt_two_pow (n := 32) abl bcl2
        have i0 : (0 : Int) ≤ (t : Int) := by omega
        have i1 : (t : Int) < 64 := by omega
        clear r6 r11 r25 r2 r13 r22 b1l b0l fgl egl bcl abl bcl2
        go_wp2_with fail
        go_quiet (fail)
        go_wp2_with fail
        obtain ⟨W1, hW1⟩ : ∃ W1, wr.drewN nq = W1 := ⟨_, rfl⟩
        have d3 : W1.cell? ⟨b7, 3, none⟩ = some (.int .u32 (vd : Nat)) := by rw [← hW1]; exact c3
        have d7 : W1.cell? ⟨b7, 7, none⟩ = some (.int .u32 (vh : Nat)) := by rw [← hW1]; exact c7
        have dw5 : W1.cell? ⟨b5, t, none⟩ = some (.int .u32 (wt : Nat)) := by rw [← hW1]; exact hw5
        have dw6 : W1.cell? ⟨b6, t, none⟩ = some (.int .u32 (kt : Nat)) := by rw [← hW1]; exact hw6
        have hHK7 := HK7.out
        rw [show wr.heap = W1.heap by rw [← hW1]; rfl] at hHK7
        have J7 := Lib.hid hHK7
        have hHK5 := HK5.out
        rw [show wr.heap = W1.heap by rw [← hW1]; rfl] at hHK5
        have J5 := Lib.hid hHK5
        have hHK6 := HK6.out
        rw [show wr.heap = W1.heap by rw [← hW1]; rfl] at hHK6
        have J6 := Lib.hid hHK6
        have hHK2 := HK2.out
        rw [show wr.heap = W1.heap by rw [← hW1]; rfl] at hHK2
        have J2 := Lib.hid hHK2
        have hHK4 := HK4.out
        rw [show wr.heap = W1.heap by rw [← hW1]; rfl] at hHK4
        have J4 := Lib.hid hHK4
        have HB7 := Lib.hid (show Below w.heap.size w W1 by rw [← hW1]; exact pw_below_drewN hW nq)
        rw [hW1]
        clear hHK7 hHK5 hHK6 hHK2 hHK4 HK7 HK5 HK6 HK2 HK4
        clear hW1 c0 c1 c2 c3 c4 c5 c6 c7 hw5 hw6 hW
        go_quiet ((first | with_reducible exact Calls.quiet_of_same (T6.out _) | with_reducible exact Calls.quiet_of_same (T11.out _) | with_reducible exact Calls.quiet_of_same (T25.out _)))
        have hX : (((vh : Int) + (big1 ve : Nat) + (cho ve vf vg : Nat) + kt) % 4294967296 + wt) % 4294967296 = (((vh + big1 ve + cho ve vf vg + kt + wt) % 4294967296 : Nat) : Int) := by omega
        have lX : (vh + big1 ve + cho ve vf vg + kt + wt) % 4294967296 < 4294967296 := Nat.mod_lt _ (by omega)
        rw [hX]
        obtain ⟨X, hXX⟩ : ∃ X, (vh + big1 ve + cho ve vf vg + kt + wt) % 4294967296 = X := ⟨_, rfl⟩
        rw [hXX] at lX ⊢
        have HXX := Lib.hid hXX
        obtain ⟨W2, hW2⟩ : ∃ W2, W1.drewN nq = W2 := ⟨_, rfl⟩
        have d3 : W2.cell? ⟨b7, 3, none⟩ = some (.int .u32 (vd : Nat)) := by rw [← hW2]; exact d3
        have e7 := J7.out
        have e5 := J5.out
        have e6 := J6.out
        have e2 := J2.out
        have e4 := J4.out
        rw [show W1.heap = W2.heap by rw [← hW2]; rfl] at e7 e5 e6 e2 e4
        have hB8 : Below w.heap.size w W2 := by rw [← hW2]; exact pw_below_drewN HB7.out nq
        have HB8 := Lib.hid hB8
        have E7 := Lib.hid e7
        have E5 := Lib.hid e5
        have E6 := Lib.hid e6
        have E2 := Lib.hid e2
        have E4 := Lib.hid e4
        rw [hW2]
        clear hX hXX d7 dw5 dw6 y1 y2 y5 y6 y7 lb1 lch hW2 e7 e5 e6 e2 e4 hB8 J7 J5 J6 J2 J4 HB7
        have hY : ((X : Int) + ((big0 va : Nat) + (maj va vb vc : Nat))) % 4294967296 = (((X + (big0 va + maj va vb vc) % 4294967296) % 4294967296 : Nat) : Int) := by omega
        have hD : ((vd : Int) + X) % 4294967296 = (((vd + X) % 4294967296 : Nat) : Int) := by omega
        have hval : (#[.int .u32 (((X : Int) + ((big0 va : Nat) + (maj va vb vc : Nat))) % 4294967296), .int .u32 (va : Nat), .int .u32 (vb : Nat), .int .u32 (vc : Nat), .int .u32 (((vd : Int) + X) % 4294967296), .int .u32 (ve : Nat), .int .u32 (vf : Nat), .int .u32 (vg : Nat)] : Array Value) = (rnds s p (t + 1)).val := by
          rw [hY, hD, HNX.out]
          unfold rnd St.val
          simp only [HXX.out]
        have HV := Lib.hid hval
        have i8 : (Tryz.prog.info? 178).map (·.size) = some (rnds s p (t + 1)).val.size := by rw [St.val_size]; exact info8
        have HI8' := Lib.hid i8
        clear hY hD hval i8
        go_wp2_with (first | (refine wpList_store_row rfl 178 (.tmp 7) (.tmp 95) rfl b7 rfl (rnds s p (t + 1)).val _ (congrArg Value.agg HV.out) 178 E7.out HI8'.out ((St.val_size _).trans (St.val_size _).symm) (St.val_one _) ?_) | (with_reducible refine (T2_.out _).mono ?_; rintro e w' ⟨rfl, rfl⟩) | (with_reducible refine (T13.out _).mono ?_; rintro e w' ⟨rfl, rfl⟩) | (with_reducible refine (T22.out _).mono ?_; rintro e w' ⟨rfl, rfl⟩))
        refine ⟨⟨t + 1, by omega, by go_num, setRow_heap _ _ _ _ _ _ E7.out, ?_, ?_, ?_, ?_, below_setRow HB8.out N7.out _⟩, by simp [intOf]; omega⟩
        · rw [setRow_other _ _ _ _ N57.out]; exact E5.out
        · rw [setRow_other _ _ _ _ N67.out]; exact E6.out
        · rw [setRow_other _ _ _ _ N27.out]; exact E2.out
        · rw [setRow_other _ _ _ _ N47.out]; exact E4.out
      · have hd : decide ((t : Int) < 64) = false := by simp; omega
        have h64 : rnds s p t = rnds s p 64 := by rw [show t = 64 by omega]
        rw [h64] at k7
        have hok2 := rnds_ok s p hs 64
        have hmix : mixS s p = addS s (rnds s p 64) := rfl
        obtain ⟨v, hv⟩ : ∃ v, rnds s p 64 = v := ⟨_, rfl⟩
        rw [hv] at k7 hok2 hmix
        clear hv h64 hok
        have hsv : S = tabG s.at := by rw [← HS.out]; rfl
        have hvv : v.val = tabG v.at := rfl
        rw [hsv] at k2
        rw [hvv] at k7
        have hsl := St.at_lt hs
        have hvl := St.at_lt hok2
        have hadd : (addS s v).val = tabG (addA s v 8) := rfl
        have H7 := Lib.hid k7
        have H4 := Lib.hid k4
        have HM := Lib.hid hmix
        have K2 := Lib.hid k2
        have HAD := Lib.hid hadd
        have HSL := Lib.hid hsl
        have HVL := Lib.hid hvl
        clear k7 k5 k6 k4 hmix hsv hvv k2 hsl hvl hadd hlt ht
        go_wp2_with fail
        obtain ⟨wo, rfl⟩ : ∃ wo : World, wo = wr := ⟨_, rfl⟩
        go_loopw [97] (fun vi W => ∃ i : Nat, i ≤ 8 ∧ vi = .int .i64 i ∧ W.heap[w.heap.size]? = some (.cells (tabG (addA s v i)) 178 (0, 0)) ∧ W.heap[b7]? = some (.cells (tabG v.at) 178 (0, 0)) ∧ W.heap[w.heap.size + 1]? = some (.cells zeros8 178 (0, 0)) ∧ Below w.heap.size w W) (fun vi _ => 8 - (intOf vi).toNat)
        case atStart => exact ⟨0, by omega, rfl, by rw [addA_zero]; exact K2.out, H7.out, H4.out, hW⟩
        case round =>
          obtain ⟨i, hi, rfl, k2, k7, k4, hW2⟩ := hrel
          by_cases hlt : i < 8
          · have hd : decide ((i : Int) < 8) = true := by simp; omega
            have i0 : (0 : Int) ≤ (i : Int) := by omega
            have i1 : (i : Int) < 8 := by omega
            have cs := tabG_cell k2 i hlt
            have cv := tabG_cell k7 i hlt
            have cf := tabG_free k2 i
            rw [addA_at s v i] at cs
            have lx := HSL.out i
            have ly := HVL.out i
            have hst := fun (W : World) (h : W.heap[w.heap.size]? = some (.cells (tabG (addA s v i)) 178 (0, 0))) => tabG_store (x := (s.at i + v.at i) % 4294967296) h hlt
            rw [addA_step s v i] at hst
            obtain ⟨x, hx⟩ : ∃ x, s.at i = x := ⟨_, rfl⟩
            obtain ⟨y, hy⟩ : ∃ y, v.at i = y := ⟨_, rfl⟩
            rw [hx, hy] at hst
            rw [hx] at cs lx
            rw [hy] at cv ly
            have HST := Lib.hid hst
            have HK2 := Lib.hid k2
            have HK7 := Lib.hid k7
            have HK4 := Lib.hid k4
            clear hst hx hy k2 k7 k4
            go_wp2_with fail
            refine wp_region_still_tail 8 (by kernel_rfl) (by kernel_rfl) ?_
            simp only [List.take_succ_cons, List.take_zero, List.drop_succ_cons, List.drop_zero]
            still_step
            still_step
            still_step
            still_step
            still_step
            still_step
            still_step
            still_step
            refine wpStill_nil ?_
            change wpList _ _ _ _ _ wr.drew
            have hv : ((x : Int) + y) % 4294967296 = (((x + y) % 4294967296 : Nat) : Int) := by omega
            have HV2 := Lib.hid hv
            have h2 := HST.out wr.drew HK2.out
            have h7 : (wr.drew.setCell ⟨w.heap.size, i, none⟩ (.int .u32 ((x + y) % 4294967296 : Nat))).heap[b7]? = some (.cells (tabG v.at) 178 (0, 0)) := by rw [heap_setCell_other _ _ _ _ (Ne.symm N27.out)]; exact HK7.out
            have h4 : (wr.drew.setCell ⟨w.heap.size, i, none⟩ (.int .u32 ((x + y) % 4294967296 : Nat))).heap[w.heap.size + 1]? = some (.cells zeros8 178 (0, 0)) := by rw [heap_setCell_other _ _ _ _ (by simp)]; exact HK4.out
            have H2' := Lib.hid h2
            have H7' := Lib.hid h7
            have H4' := Lib.hid h4
            clear hv h2 h7 h4
            go_wp2_with fail
            rw [HV2.out]
            exact ⟨⟨i + 1, by omega, by go_num, H2'.out, H7'.out, H4'.out, hW2.drew.setCell (by simp) _⟩, by simp [intOf]; omega⟩
          · have hd : decide ((i : Int) < 8) = false := by simp; omega
            rw [show i = 8 by omega, ← HAD.out] at k2
            have i8 : (Tryz.prog.info? 178).map (·.size) = some (addS s v).val.size := by rw [St.val_size]; exact info8
            have s8 : zeros8.size = (addS s v).val.size := by rw [St.val_size]; simp [zeros8]
            have o8 := St.val_one (addS s v)
            obtain ⟨R, hR⟩ : ∃ R, (addS s v).val = R := ⟨_, rfl⟩
            have hRm : (mixS s p).val = R := by rw [HM.out]; exact hR
            rw [hR] at k2 i8 s8 o8
            have HK2 := Lib.hid k2
            have HK4 := Lib.hid k4
            have HI8' := Lib.hid i8
            have HS8 := Lib.hid s8
            have HO8 := Lib.hid o8
            have HRM := Lib.hid hRm
            clear k2 k7 k4 i8 s8 o8 hR hRm
            go_wp2_with (first | (refine wpList_store_row rfl 178 (.tmp 4) (.tmp 109) rfl (w.heap.size + 1) rfl R zeros8 rfl 178 HK4.out HI8'.out HS8.out HO8.out ?_) | refine wpList_load_row rfl 178 (.tmp 2) rfl w.heap.size rfl 178 R (0, 0) _ HK2.out Tryz.underlying178 rfl HI8'.out ?_)
            (try simp only [Exit.inBlock, Exit.then])
            exact bodyPost_ret (v := .agg R) (results_cell_row rfl _ _ (w.heap.size + 1) 178 R (0, 0) _ rfl (setRow_heap _ _ _ _ _ _ HK4.out) Tryz.underlying178 rfl HI8'.out) rfl ⟨by rw [HRM.out], below_setRow hW2 (by omega) _⟩
end Go.Proofs.YtbcamfbbooggfaaGreat.F
