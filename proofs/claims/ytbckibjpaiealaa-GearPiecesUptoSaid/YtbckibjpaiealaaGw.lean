/- The closure of Write; the bytes fed. -/
import Derived.Test.YtbckibjpaiealaaGt
import Derived.RangeFuncBox
import Derived.RegionTactic
import Derived.BigRegion
import Derived.StillTactics
import Derived.Deep.RegionHeldLaw
import Derived.Deep.AppendLies
set_option linter.unusedVariables false
set_option linter.unusedSimpArgs false
namespace Go.Proofs.Ytbckibjpaiealaa.F
open Go.RowKit Go.Proofs.YtbckibjpaiealaaW.PrintWords

/-- How things stand while bytes are fed. -/
structure FS (W : World) (base O V B : Nat) (mn av mx : Nat) (tb : List Nat) (okc : Nat → Prop) (vo : Value) (css : List (List Nat)) (hv : Value) (xs : List Nat) : Prop where
  hO : base ≤ O
  hV : base ≤ V
  bo : Boxed W O 34 vo
  bv : Boxed W V 42 (.pointer (some ⟨B, 0, none⟩))
  cu : CU W B mn av mx tb hv (ghash tb xs) false
  so : SRow W okc base 32 vo css
  oh : OwnN .u8 5 W base hv xs
  ok : ∀ k, okc k → base ≤ k ∧ (∃ cs, W.heap[k]? = some (.cells cs 5 (0, 0))) ∧ hv.ownBlock ≠ some k
/-- Below base just block B may have turned. -/
structure KF (base B : Nat) (W W' : World) : Prop where
  os : W'.os = W.os
  tape : W'.tape = W.tape
  output : W'.output = W.output
  size : W.heap.size ≤ W'.heap.size
  block : ∀ k, k < base → k ≠ B → W'.heap[k]? = W.heap[k]?
theorem KF.refl (base B : Nat) (W : World) : KF base B W W := ⟨rfl, rfl, rfl, Nat.le_refl _, fun _ _ _ => rfl⟩
theorem KF.trans {base B : Nat} {W W' W'' : World} (h : KF base B W W') (h' : KF base B W' W'') : KF base B W W'' :=
  ⟨h'.os.trans h.os, h'.tape.trans h.tape, h'.output.trans h.output, Nat.le_trans h.size h'.size, fun k hk hb => (h'.block k hk hb).trans (h.block k hk hb)⟩

theorem ne_of_type {W : World} {a b : Nat} {ca cb : Array Value} {ta tb : TypeId} {fa fb : Nat × Nat} (ha : W.heap[a]? = some (.cells ca ta fa)) (hb : W.heap[b]? = some (.cells cb tb fb)) (h : ta ≠ tb) : a ≠ b := by
  rintro rfl
  have := ha.symm.trans hb
  simp at this
  exact h this.2.1

section
variable {W W' : World} {base O V B mn av mx : Nat} {tb : List Nat} {okc : Nat → Prop} {vo hv hv' : Value} {css : List (List Nat)} {xs : List Nat}
theorem FS.base_le (h : FS W base O V B mn av mx tb okc vo css hv xs) : base ≤ W.heap.size := Nat.le_trans h.hO (Nat.le_of_lt h.bo.lt)
theorem FS.take {b : Nat} (h : FS W base O V B mn av mx tb okc vo css hv xs) (hcu : CU W' B mn av mx tb hv' (ghash tb (xs ++ [b])) false) (ho : OwnN .u8 5 W' base hv' (xs ++ [b]))
    (hat : hv'.ownBlock = hv.ownBlock ∨ ∃ k, hv'.ownBlock = some k ∧ W.heap.size ≤ k) (hk : KB B hv.ownBlock W W') : FS W' base O V B mn av mx tb okc vo css hv' (xs ++ [b]) ∧ KF base B W W' := by
  have same : ∀ k cs t, W.heap[k]? = some (Obj.cells cs t (0, 0)) → t ≠ 54 → t ≠ 5 → W'.heap[k]? = W.heap[k]? := fun k cs t hk2 h1 h2 => by
    refine hk.block k (Array.getElem?_eq_some_iff.1 hk2).1 (ne_of_type hk2 h.cu h1) (fun hh => ?_)
    obtain ⟨_, _, cs2, hcs⟩ := h.oh.typed k hh
    exact ne_of_type hk2 hcs h2 rfl
  have samec : ∀ k, okc k → W'.heap[k]? = W.heap[k]? := fun k hk2 => by
    obtain ⟨_, ⟨cs, hcs⟩, hne⟩ := h.ok k hk2
    exact hk.block k (Array.getElem?_eq_some_iff.1 hcs).1 (ne_of_type hcs h.cu (by decide)) hne
  refine ⟨⟨h.hO, h.hV, (same O _ _ h.bo (by decide) (by decide)).trans h.bo, (same V _ _ h.bv (by decide) (by decide)).trans h.bv, hcu, h.so.move hk.size ?_, ho, fun k hk2 => ?_⟩, hk.os, hk.tape, hk.output, hk.size, fun k hkb hkB => ?_⟩
  · rintro k (hk2 | hk2)
    · exact samec k hk2
    · obtain ⟨_, _, cs, hcs⟩ := h.so.typed k hk2
      exact same k _ _ hcs (by decide) (by decide)
  · obtain ⟨hb, ⟨cs, hcs⟩, hne⟩ := h.ok k hk2
    refine ⟨hb, ⟨cs, (samec k hk2).trans hcs⟩, fun hh => ?_⟩
    rcases hat with h1 | ⟨j, h1, h2⟩
    · exact hne (h1 ▸ hh)
    · rw [h1] at hh; injection hh with hh
      have := (Array.getElem?_eq_some_iff.1 hcs).1
      omega
  · have := h.base_le
    refine hk.block k (by omega) hkB (fun hh => ?_)
    have := (h.oh.typed k hh).1
    omega
theorem ownBlock_slice (a : Addr) (n c : Nat) : (Value.slice (some a) n c).ownBlock = some a.block := rfl
theorem FS.ends {gg cap c0 : Nat} {vals : List Value} {w1 W3 : World} {A0 : Option Addr} (ht : tb.length = 256) (h : FS W base O V B mn av mx tb okc vo css hv xs) (hv0 : hv = .slice A0 xs.length c0)
    (hown1 : w1.ownsRow base 32 1 (.slice (some ⟨gg, 0, none⟩) (css.length + 1) cap) (css.length + 1) (vals ++ [.slice A0 xs.length xs.length]))
    (h2 : ∀ k, okc k → k < W.heap.size) (h3 : ∀ k, vo.ownBlock = some k → ¬ okc k) (hvl : vals.length = css.length)
    (h4 : ∀ i (h : i < css.length), ∃ A c, vals[i]? = some (.slice A css[i].length c) ∧ css[i].length ≤ c ∧ RN .u8 W A css[i] ∧ ∀ a, A = some a → okc a.block)
    (hgrow : ((W.alloc (.cells #[.slice A0 xs.length xs.length] 32)).drew).grownBy w1 vo.ownBlock) (hat : vo.ownBlock = some gg ∨ gg = W.heap.size + 1)
    (hW3 : W3 = (((w1.setCell ⟨O, 0, none⟩ (.slice (some ⟨gg, 0, none⟩) (css.length + 1) cap)).setCell ⟨B, 259, none⟩ (.slice none 0 0)).setCell ⟨B, 260, none⟩ (.int .u32 0)).drew) :
    FS W3 base O V B mn av mx tb (fun k => okc k ∨ ∃ a, A0 = some a ∧ k = a.block) (.slice (some ⟨gg, 0, none⟩) (css.length + 1) cap) (css ++ [xs]) (.slice none 0 0) [] ∧ KF base B W W3 := by
  have hg : W.grownBy w1 vo.ownBlock := by
    have := (World.grownBy_alloc W (.cells #[.slice A0 xs.length xs.length] 32) vo.ownBlock)
    exact ⟨hgrow.os.trans this.os, hgrow.tape.trans this.tape, hgrow.output.trans this.output, Nat.le_trans this.size hgrow.size, fun k hk hne => (hgrow.block k (Nat.lt_of_lt_of_le hk this.size) hne).trans (this.block k hk hne)⟩
  have hA : ∀ a, A0 = some a → a.block < W.heap.size ∧ vo.ownBlock ≠ some a.block := fun a ha => by
    subst ha
    obtain ⟨_, hlt, cs, hcs⟩ := h.oh.typed a.block (by rw [hv0]; rfl)
    refine ⟨hlt, fun hh => ?_⟩
    obtain ⟨_, _, cs2, hcs2⟩ := h.so.typed _ hh
    exact ne_of_type hcs hcs2 (by decide) rfl
  have hat' : (Value.slice (some ⟨gg, 0, none⟩) (css.length + 1) cap).ownBlock = vo.ownBlock ∨ ∃ b, (Value.slice (some ⟨gg, 0, none⟩) (css.length + 1) cap).ownBlock = some b ∧ W.heap.size ≤ b := by
    rcases hat with h | h
    · exact .inl h.symm
    · exact .inr ⟨gg, rfl, by omega⟩
  have hs : SRow w1 (fun k => okc k ∨ ∃ a, A0 = some a ∧ k = a.block) base 32 (.slice (some ⟨gg, 0, none⟩) (css.length + 1) cap) (css ++ [xs]) := by
    obtain ⟨_, _, _, _, hr0⟩ := h.oh.reads
    have hr : RN .u8 W A0 xs := by
      obtain ⟨A1, c1, e1, _, hr1⟩ := h.oh.reads
      rw [hv0] at e1
      injection e1 with e1
      exact e1 ▸ hr1
    refine SRow.snoc h2 h3 hvl h4 hr (Nat.le_refl _) hA ?_ hg hat'
    rw [List.length_append, hvl]
    exact hown1
  have hne : ∀ k, k ≠ O → k ≠ B → W3.heap[k]? = w1.heap[k]? := fun k h1 h2 => by
    rw [hW3]
    show (((w1.setCell _ _).setCell _ _).setCell _ _).heap[k]? = _
    rw [Deep.blk_setCell_other _ _ _ _ h2, Deep.blk_setCell_other _ _ _ _ h2, Deep.blk_setCell_other _ _ _ _ h1]
  have hOB : O ≠ B := ne_of_type h.bo h.cu (by decide)
  have lO := h.bo.lt
  have same : ∀ k cs t, W.heap[k]? = some (Obj.cells cs t (0, 0)) → t ≠ 54 → t ≠ 34 → t ≠ 32 → W3.heap[k]? = W.heap[k]? := fun k cs t hk2 h1 h2 h3 => by
    refine (hne k (ne_of_type hk2 h.bo h2) (ne_of_type hk2 h.cu h1)).trans (hg.block k (Array.getElem?_eq_some_iff.1 hk2).1 (fun hh => ?_))
    obtain ⟨_, _, cs2, hcs⟩ := h.so.typed k hh.symm
    exact ne_of_type hk2 hcs h3 rfl
  have w1O : w1.heap[O]? = W.heap[O]? := hg.block O lO (fun hh => by
    obtain ⟨_, _, cs2, hcs⟩ := h.so.typed O hh.symm
    exact ne_of_type h.bo hcs (by decide) rfl)
  have w1B : w1.heap[B]? = W.heap[B]? := hg.block B h.cu.lt (fun hh => by
    obtain ⟨_, _, cs2, hcs⟩ := h.so.typed B hh.symm
    exact ne_of_type h.cu hcs (by decide) rfl)
  have hsz : W3.heap.size = w1.heap.size := by rw [hW3]; show (((w1.setCell _ _).setCell _ _).setCell _ _).heap.size = _; simp
  refine ⟨⟨h.hO, h.hV, ?_, (same V _ _ h.bv (by decide) (by decide) (by decide)).trans h.bv, ?_, ?_, own_nil _ _ _ _, fun k hk => ?_⟩, ?_⟩
  · have hb1 : Boxed w1 O 34 vo := w1O.trans h.bo
    have hb2 := hb1.set (.slice (some ⟨gg, 0, none⟩) (css.length + 1) cap)
    refine Eq.trans ?_ hb2
    rw [hW3]
    show (((w1.setCell _ _).setCell _ _).setCell _ _).heap[O]? = _
    rw [Deep.blk_setCell_other _ _ _ _ hOB, Deep.blk_setCell_other _ _ _ _ hOB]
  · have hc1 : CU (w1.setCell ⟨O, 0, none⟩ (.slice (some ⟨gg, 0, none⟩) (css.length + 1) cap)) B mn av mx tb hv (ghash tb xs) false := h.cu.move ((Deep.blk_setCell_other _ _ _ _ (Ne.symm hOB)).trans w1B)
    have hc3 := (hc1.setHeld ht (.slice none 0 0)).setHash ht 0
    rw [hW3]
    exact hc3
  · refine hs.move (by omega) ?_
    rintro k ((hk | ⟨a, ha, rfl⟩) | hk)
    · obtain ⟨_, ⟨cs, hcs⟩, _⟩ := h.ok k hk
      exact hne k (ne_of_type hcs h.bo (by decide)) (ne_of_type hcs h.cu (by decide))
    · obtain ⟨_, hlt, cs, hcs⟩ := h.oh.typed a.block (by rw [hv0, ha]; rfl)
      exact hne _ (ne_of_type hcs h.bo (by decide)) (ne_of_type hcs h.cu (by decide))
    · obtain ⟨_, hlt, cs, hcs⟩ := hs.typed k hk
      exact hne _ (ne_of_type hcs (w1O.trans h.bo) (by decide)) (ne_of_type hcs (w1B.trans h.cu) (by decide))
  · rcases hk with hk | ⟨a, ha, rfl⟩
    · obtain ⟨hb, ⟨cs, hcs⟩, _⟩ := h.ok k hk
      exact ⟨hb, ⟨cs, (same k _ _ hcs (by decide) (by decide) (by decide)).trans hcs⟩, by simp [Value.ownBlock]⟩
    · obtain ⟨hb, hlt, cs, hcs⟩ := h.oh.typed a.block (by rw [hv0, ha]; rfl)
      exact ⟨hb, ⟨cs, (same _ _ _ hcs (by decide) (by decide) (by decide)).trans hcs⟩, by simp [Value.ownBlock]⟩
  · refine ⟨by rw [hW3]; exact hg.os, by rw [hW3]; exact hg.tape, by rw [hW3]; exact hg.output, by rw [hsz]; exact hg.size, fun k hk hkB => ?_⟩
    have := h.hO
    refine (hne k (by omega) hkB).trans (hg.block k (by omega) (fun hh => ?_))
    have := (h.so.typed k hh.symm).1
    omega
end

set_option maxRecDepth 20000 in
set_option maxHeartbeats 2000000 in
theorem ends_c (W : World) (base O V B : Nat) (mn av mx : Nat) (tb : List Nat) (okc : Nat → Prop) (vo : Value) (css : List (List Nat)) (hv : Value) (xs : List Nat) (ht : tb.length = 256)
    (h : FS W base O V B mn av mx tb okc vo css hv xs) (hl : (css.length + 1) * 24 ≤ 140737488355328) :
    Calls Try.prog 28 #[.pointer (some ⟨O, 0, none⟩), .pointer (some ⟨V, 0, none⟩)] W fun e w' =>
      ∃ vo' okc', e = .returned (.tuple #[]) ∧ FS w' base O V B mn av mx tb okc' vo' (css ++ [xs]) (.slice none 0 0) [] ∧ KF base B W w' := by
  obtain ⟨A0, c0, hv0, hc0, hr0⟩ := h.oh.reads
  have k0 := h.bo.cell
  have kv := h.bv.cell
  have k1 := h.cu.gHeld ht
  have z0 := h.bo.frozen
  rw [hv0] at k1
  have HH := Lib.hid h
  have HV := Lib.hid hv0
  clear h
  have hcl : (xs.length : Int) ≤ c0 := by omega
  have hcl0 : (0 : Int) ≤ xs.length := by omega
  have h := HH.out
  obtain ⟨vals, hown, hok2, hno, hels⟩ := h.so
  have hbase := h.base_le
  have lO := h.bo.lt
  have lV := h.bv.lt
  have lB := h.cu.lt
  have aO : vo.ownBlock ≠ some O := fun hh => by
    obtain ⟨_, _, cs, hcs⟩ := h.so.typed O hh
    exact ne_of_type h.bo hcs (by decide) rfl
  have aV : vo.ownBlock ≠ some V := fun hh => by
    obtain ⟨_, _, cs, hcs⟩ := h.so.typed V hh
    exact ne_of_type h.bv hcs (by decide) rfl
  have aB : vo.ownBlock ≠ some B := fun hh => by
    obtain ⟨_, _, cs, hcs⟩ := h.so.typed B hh
    exact ne_of_type h.cu hcs (by decide) rfl
  have hmx : css.length + 1 ≤ maxLen := by unfold maxLen; omega
  have hvl : vals.length = css.length := by have := hown.1; omega
  have hown' : W.ownsRow base 32 1 vo css.length vals := by rw [← hvl] at hown ⊢; exact hown
  obtain ⟨ib, hib, hz0, hz1, hz2⟩ := info_parts info_bytes
  clear h hown
  have frz_move : ∀ {W W' : World} {a : Addr}, W'.heap[a.block]? = W.heap[a.block]? → W'.frozen? a = W.frozen? a := fun {W W' a} h => by simp [World.frozen?, h]
  have K1 : ∀ o : Obj, (W.alloc o).drew.cell? ⟨O, 0, none⟩ = some vo := fun o => (cell_move (W := W) (a := ⟨O, 0, none⟩) (Deep.blk_alloc_lt W o O lO)).trans k0
  have K2 : ∀ o : Obj, (W.alloc o).drew.cell? ⟨V, 0, none⟩ = some (.pointer (some ⟨B, 0, none⟩)) := fun o => (cell_move (W := W) (a := ⟨V, 0, none⟩) (Deep.blk_alloc_lt W o V lV)).trans kv
  have K3 : ∀ o : Obj, (W.alloc o).drew.cell? ⟨B, 259, none⟩ = some (.slice A0 xs.length c0) := fun o => (cell_move (W := W) (a := ⟨B, 259, none⟩) (Deep.blk_alloc_lt W o B lB)).trans k1
  have K4 : ∀ o : Obj, (W.alloc o).drew.frozen? ⟨O, 0, none⟩ = false := fun o => (frz_move (W := W) (a := ⟨O, 0, none⟩) (Deep.blk_alloc_lt W o O lO)).trans z0
  have HEL := Lib.hid hels
  have HNO := Lib.hid hno
  have HOK := Lib.hid hok2
  clear hels hno hok2
  have hOV : V ≠ O := ne_of_type HH.out.bv HH.out.bo (by decide)
  have hOB : B ≠ O := ne_of_type HH.out.cu HH.out.bo (by decide)
  have FZ : ∀ (w : World) (a : Addr) (v : Value), (w.setCell a v).frozen? ⟨O, 0, none⟩ = w.frozen? ⟨O, 0, none⟩ := fun w a v => by
    by_cases hb : a.block = O
    · simp only [World.frozen?, World.setCell, Array.getElem?_modify, hb, if_true]
      cases h : w.heap[O]? with
      | none => rfl
      | some o => cases o <;> rfl
    · exact frz_move (Deep.blk_setCell_other w a v O (fun h => hb h.symm))
  go_enter Try.func28, Try.ntmps28
  go_wp2_with fail
  refine wp_region_held_drew (S := fun w' => w'.cell? ⟨V, 0, none⟩ = some (.pointer (some ⟨B, 0, none⟩)) ∧ w'.cell? ⟨B, 259, none⟩ = some (.slice A0 xs.length c0) ∧ w'.frozen? ⟨O, 0, none⟩ = false) (by kernel_rfl) ⟨kv, k1, z0⟩ (fun hHeld => ?_)
  refine wpAnyH_take (i := 1) (v := ?_) rfl (by kernel_rfl) (by kernel_rfl) (by kernel_rfl) (fun _ _ _ h => h) (Or.inl ⟨by rfl, ?_⟩) (by assumption) ?_
  rotate_left 1
  · (intro w hSw; (try dsimp only at hSw); go_split_ands; go_simp; try with_reducible rfl)
  simp only [Act.put, List.setIfInBounds_toArray, List.set_cons_zero, List.set_cons_succ]
  refine wpAnyH_take (i := 2) (v := ?_) rfl (by kernel_rfl) (by kernel_rfl) (by kernel_rfl) (fun _ _ _ h => h) (Or.inl ⟨by rfl, ?_⟩) (by assumption) ?_
  rotate_left 1
  · (intro w hSw; (try dsimp only at hSw); go_split_ands; go_simp; try with_reducible rfl)
  simp only [Act.put, List.setIfInBounds_toArray, List.set_cons_zero, List.set_cons_succ]
  refine wpAnyH_take (i := 3) (v := ?_) rfl (by kernel_rfl) (by kernel_rfl) (by kernel_rfl) (fun _ _ _ h => h) (Or.inl ⟨by rfl, ?_⟩) (by assumption) ?_
  rotate_left 1
  · (intro w hSw; (try dsimp only at hSw); go_split_ands; go_simp; try with_reducible rfl)
  simp only [Act.put, List.setIfInBounds_toArray, List.set_cons_zero, List.set_cons_succ]
  refine wpAnyH_take (i := 4) (v := ?_) rfl (by kernel_rfl) (by kernel_rfl) (by kernel_rfl) (fun _ _ _ h => h) (Or.inl ⟨by rfl, ?_⟩) (by assumption) ?_
  rotate_left 1
  · (intro w hSw; (try dsimp only at hSw); go_split_ands; go_simp; try with_reducible rfl)
  simp only [Act.put, List.setIfInBounds_toArray, List.set_cons_zero, List.set_cons_succ]
  refine wpAnyH_take (i := 5) (v := ?_) rfl (by kernel_rfl) (by kernel_rfl) (by kernel_rfl) (fun _ _ _ h => h) (Or.inl ⟨by rfl, ?_⟩) (by assumption) ?_
  rotate_left 1
  · (intro w hSw; (try dsimp only at hSw); go_split_ands; go_simp; try with_reducible rfl)
  simp only [Act.put, List.setIfInBounds_toArray, List.set_cons_zero, List.set_cons_succ]
  refine wpAnyH_take (i := 6) (v := ?_) rfl (by kernel_rfl) (by kernel_rfl) (by kernel_rfl) (fun _ _ _ h => h) (Or.inl ⟨by rfl, ?_⟩) (by assumption) ?_
  rotate_left 1
  · (intro w hSw; (try dsimp only at hSw); go_split_ands; go_simp; try with_reducible rfl)
  simp only [Act.put, List.setIfInBounds_toArray, List.set_cons_zero, List.set_cons_succ]
  refine wpAnyH_take (i := 7) (v := ?_) rfl (by kernel_rfl) (by kernel_rfl) (by kernel_rfl) (fun _ _ _ h => h) (Or.inl ⟨by rfl, ?_⟩) (by assumption) ?_
  rotate_left 1
  · (intro w hSw; (try dsimp only at hSw); go_split_ands; go_simp; try with_reducible rfl)
  simp only [Act.put, List.setIfInBounds_toArray, List.set_cons_zero, List.set_cons_succ]
  refine wpAnyH_take (i := 8) (v := ?_) rfl (by kernel_rfl) (by kernel_rfl) (by kernel_rfl) (fun _ _ _ h => h) (Or.inl ⟨by rfl, ?_⟩) (by assumption) ?_
  rotate_left 1
  · (intro w hSw; (try dsimp only at hSw); go_split_ands; go_simp; try with_reducible rfl)
  simp only [Act.put, List.setIfInBounds_toArray, List.set_cons_zero, List.set_cons_succ]
  refine wpAnyH_take (i := 9) (v := ?_) rfl (by kernel_rfl) (by kernel_rfl) (by kernel_rfl) (fun _ _ _ h => h) (Or.inl ⟨by rfl, ?_⟩) (by assumption) ?_
  rotate_left 1
  · (intro w hSw; (try dsimp only at hSw); go_split_ands; go_simp; try with_reducible rfl)
  simp only [Act.put, List.setIfInBounds_toArray, List.set_cons_zero, List.set_cons_succ]
  refine wpAnyH_take (i := 10) (v := ?_) rfl (by kernel_rfl) (by kernel_rfl) (by kernel_rfl) (fun _ _ _ h => h) (Or.inl ⟨by rfl, ?_⟩) (by assumption) ?_
  rotate_left 1
  · (intro w hSw; (try dsimp only at hSw); go_split_ands; go_simp; try with_reducible rfl)
  simp only [Act.put, List.setIfInBounds_toArray, List.set_cons_zero, List.set_cons_succ]
  refine wpAnyH_take (i := 11) (v := ?_) rfl (by kernel_rfl) (by kernel_rfl) (by kernel_rfl) (fun _ _ _ h => h) (Or.inl ⟨by rfl, ?_⟩) (by assumption) ?_
  rotate_left 1
  · (intro w hSw; (try dsimp only at hSw); go_split_ands; go_simp; try with_reducible rfl)
  simp only [Act.put, List.setIfInBounds_toArray, List.set_cons_zero, List.set_cons_succ]
  refine wpAnyH_take (i := 12) (v := ?_) rfl (by kernel_rfl) (by kernel_rfl) (by kernel_rfl) (fun _ _ _ h => h) (Or.inl ⟨by rfl, ?_⟩) (by assumption) ?_
  rotate_left 1
  · (intro w hSw; (try dsimp only at hSw); go_split_ands; go_simp; try with_reducible rfl)
  simp only [Act.put, List.setIfInBounds_toArray, List.set_cons_zero, List.set_cons_succ]
  refine wpAnyH_take (i := 13) (v := ?_) rfl (by kernel_rfl) (by kernel_rfl) (by kernel_rfl) (fun _ _ _ h => h) (Or.inl ⟨by rfl, ?_⟩) (by assumption) ?_
  rotate_left 1
  · (intro w hSw; (try dsimp only at hSw); go_split_ands; go_simp; try with_reducible rfl)
  simp only [Act.put, List.setIfInBounds_toArray, List.set_cons_zero, List.set_cons_succ]
  refine wpAnyH_take (i := 14) (v := ?_) rfl (by kernel_rfl) (by kernel_rfl) (by kernel_rfl) (fun _ _ _ h => h) (Or.inl ⟨by rfl, ?_⟩) (by assumption) ?_
  rotate_left 1
  · (intro w hSw; (try dsimp only at hSw); go_split_ands; go_simp; try with_reducible rfl)
  simp only [Act.put, List.setIfInBounds_toArray, List.set_cons_zero, List.set_cons_succ]
  refine wpAnyH_take (i := 15) (v := ?_) rfl (by kernel_rfl) (by kernel_rfl) (by kernel_rfl) (fun _ _ _ h => h) (Or.inl ⟨by rfl, ?_⟩) (by assumption) ?_
  rotate_left 1
  · (intro w hSw; (try dsimp only at hSw); go_split_ands; go_simp; try with_reducible rfl)
  simp only [Act.put, List.setIfInBounds_toArray, List.set_cons_zero, List.set_cons_succ]
  refine wpAnyH_ready (rs := [0, 16]) (by kernel_rfl) (by simp) (AllReadyH.cons rfl (fun K hK => ?_) (AllReadyH.cons rfl (fun K hK => ?_) AllReadyH.nil))
  · go_simp
    refine hK.out _ _ (hHeld) (fun hHeld => ?_)
    clear hK K
    refine wpAnyH_ready (rs := [16]) (by kernel_rfl) (by simp) (AllReadyH.cons rfl (fun K hK => ?_) AllReadyH.nil)
    go_simp
    refine hK.out _ _ (⟨K2 _, K3 _, K4 _⟩) (fun hHeld => ?_)
    clear hK K
    refine wpAnyH_ready (rs := [17]) (by kernel_rfl) (by simp) (AllReadyH.cons rfl (fun K hK => ?_) AllReadyH.nil)
    refine step_append_lies _ (by rfl) _ _ _ (by rfl) base 32 ib _ 1 24 Try.underlying34 hib hz0 hz1 hz2 rfl (by omega) vo css.length vals (by rfl) ((hown'.alloc _).drew)
          ⟨W.heap.size, 0, none⟩ 1 1 [.slice A0 xs.length xs.length] (by rfl) (by rfl) (World.news_of_block (cs := #[.slice A0 xs.length xs.length]) (t := 32) (fr := (0, 0)) (heap_alloc_new W _)) (by simp [Value.oneCell'])
          (by omega) hmx hl (by simp; omega) (W.heap.size + 1) (by simp) ?_
    intro gg cap w1 hown1 hgrow hat hlt
    have KO := (hgrow.cell_far ⟨O, 0, none⟩ (by simp; omega) (Ne.symm aO)).trans (K1 _)
    have KV := (hgrow.cell_far ⟨V, 0, none⟩ (by simp; omega) (Ne.symm aV)).trans (K2 _)
    have KB := (hgrow.cell_far ⟨B, 259, none⟩ (by simp; omega) (Ne.symm aB)).trans (K3 _)
    have KZ := (hgrow.frozen_far ⟨O, 0, none⟩ (by simp; omega) (Ne.symm aO)).trans (K4 _)
    refine hK.out _ _ (⟨KV, KB, KZ⟩) (fun hHeld => ?_)
    clear hK K
    refine wpAnyH_ready (rs := [18]) (by kernel_rfl) (by simp) (AllReadyH.cons rfl (fun K hK => ?_) AllReadyH.nil)
    go_simp
    refine hK.out _ _ (⟨(World.cell?_setCell_far _ _ _ _ (Ne.symm hOV)).trans KV, (World.cell?_setCell_far _ _ _ _ (Ne.symm hOB)).trans KB, (FZ _ _ _).trans KZ⟩) (fun hHeld => ?_)
    clear hK K
    refine wpAnyH_done (by kernel_rfl) ?_ _
    obtain ⟨v2, hv2⟩ : ∃ v2, Value.slice (some ⟨gg, 0, none⟩) (css.length + 1) cap = v2 := ⟨_, rfl⟩
    rw [hv2]
    obtain ⟨W2, hW2⟩ : ∃ W2, w1.setCell ⟨O, 0, none⟩ v2 = W2 := ⟨_, rfl⟩
    rw [hW2]
    have q1 : W2.cell? ⟨V, 0, none⟩ = some (.pointer (some ⟨B, 0, none⟩)) := by
      rw [← hW2, World.cell?_setCell_far _ _ _ _ (Ne.symm hOV), hgrow.cell_far _ (by simp; omega) (Ne.symm aV)]; exact K2 _
    have q2 : W2.cell? ⟨B, 259, none⟩ = some (.slice A0 xs.length c0) := by
      rw [← hW2, World.cell?_setCell_far _ _ _ _ (Ne.symm hOB), hgrow.cell_far _ (by simp; omega) (Ne.symm aB)]; exact K3 _
    have hcu2 : CU W2 B mn av mx tb hv (ghash tb xs) false := by
      refine HH.out.cu.move ?_
      rw [← hW2, Deep.blk_setCell_other _ _ _ _ hOB, hgrow.block B (by simp; omega) (Ne.symm aB)]
      exact Deep.blk_alloc_lt _ _ _ lB
    have q3 := hcu2.gHash ht
    have q4 := hcu2.frozen 259
    have q5 := hcu2.frozen 260
    clear K1 K2 K3 K4
    go_wp2_with fail
    go_region
    go_end0
    subst hv2
    have hfs := HH.out.ends ht HV.out hown1 HOK.out HNO.out hvl HEL.out hgrow hat rfl
    exact ⟨_, _, rfl, by rw [← hW2]; exact hfs.1, by rw [← hW2]; exact hfs.2⟩
  · go_simp
    refine hK.out _ _ (⟨K2 _, K3 _, K4 _⟩) (fun hHeld => ?_)
    clear hK K
    refine wpAnyH_ready (rs := [0]) (by kernel_rfl) (by simp) (AllReadyH.cons rfl (fun K hK => ?_) AllReadyH.nil)
    go_simp
    refine hK.out _ _ (hHeld) (fun hHeld => ?_)
    clear hK K
    refine wpAnyH_ready (rs := [17]) (by kernel_rfl) (by simp) (AllReadyH.cons rfl (fun K hK => ?_) AllReadyH.nil)
    refine step_append_lies _ (by rfl) _ _ _ (by rfl) base 32 ib _ 1 24 Try.underlying34 hib hz0 hz1 hz2 rfl (by omega) vo css.length vals (by rfl) ((hown'.alloc _).drew)
          ⟨W.heap.size, 0, none⟩ 1 1 [.slice A0 xs.length xs.length] (by rfl) (by rfl) (World.news_of_block (cs := #[.slice A0 xs.length xs.length]) (t := 32) (fr := (0, 0)) (heap_alloc_new W _)) (by simp [Value.oneCell'])
          (by omega) hmx hl (by simp; omega) (W.heap.size + 1) (by simp) ?_
    intro gg cap w1 hown1 hgrow hat hlt
    have KO := (hgrow.cell_far ⟨O, 0, none⟩ (by simp; omega) (Ne.symm aO)).trans (K1 _)
    have KV := (hgrow.cell_far ⟨V, 0, none⟩ (by simp; omega) (Ne.symm aV)).trans (K2 _)
    have KB := (hgrow.cell_far ⟨B, 259, none⟩ (by simp; omega) (Ne.symm aB)).trans (K3 _)
    have KZ := (hgrow.frozen_far ⟨O, 0, none⟩ (by simp; omega) (Ne.symm aO)).trans (K4 _)
    refine hK.out _ _ (⟨KV, KB, KZ⟩) (fun hHeld => ?_)
    clear hK K
    refine wpAnyH_ready (rs := [18]) (by kernel_rfl) (by simp) (AllReadyH.cons rfl (fun K hK => ?_) AllReadyH.nil)
    go_simp
    refine hK.out _ _ (⟨(World.cell?_setCell_far _ _ _ _ (Ne.symm hOV)).trans KV, (World.cell?_setCell_far _ _ _ _ (Ne.symm hOB)).trans KB, (FZ _ _ _).trans KZ⟩) (fun hHeld => ?_)
    clear hK K
    refine wpAnyH_done (by kernel_rfl) ?_ _
    obtain ⟨v2, hv2⟩ : ∃ v2, Value.slice (some ⟨gg, 0, none⟩) (css.length + 1) cap = v2 := ⟨_, rfl⟩
    rw [hv2]
    obtain ⟨W2, hW2⟩ : ∃ W2, w1.setCell ⟨O, 0, none⟩ v2 = W2 := ⟨_, rfl⟩
    rw [hW2]
    have q1 : W2.cell? ⟨V, 0, none⟩ = some (.pointer (some ⟨B, 0, none⟩)) := by
      rw [← hW2, World.cell?_setCell_far _ _ _ _ (Ne.symm hOV), hgrow.cell_far _ (by simp; omega) (Ne.symm aV)]; exact K2 _
    have q2 : W2.cell? ⟨B, 259, none⟩ = some (.slice A0 xs.length c0) := by
      rw [← hW2, World.cell?_setCell_far _ _ _ _ (Ne.symm hOB), hgrow.cell_far _ (by simp; omega) (Ne.symm aB)]; exact K3 _
    have hcu2 : CU W2 B mn av mx tb hv (ghash tb xs) false := by
      refine HH.out.cu.move ?_
      rw [← hW2, Deep.blk_setCell_other _ _ _ _ hOB, hgrow.block B (by simp; omega) (Ne.symm aB)]
      exact Deep.blk_alloc_lt _ _ _ lB
    have q3 := hcu2.gHash ht
    have q4 := hcu2.frozen 259
    have q5 := hcu2.frozen 260
    clear K1 K2 K3 K4
    go_wp2_with fail
    go_region
    go_end0
    subst hv2
    have hfs := HH.out.ends ht HV.out hown1 HOK.out HNO.out hvl HEL.out hgrow hat rfl
    exact ⟨_, _, rfl, by rw [← hW2]; exact hfs.1, by rw [← hW2]; exact hfs.2⟩
end Go.Proofs.Ytbckibjpaiealaa.F
