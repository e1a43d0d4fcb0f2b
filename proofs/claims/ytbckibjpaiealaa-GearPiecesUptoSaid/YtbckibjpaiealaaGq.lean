/- Write, End, Held, walked. -/
import Derived.Test.YtbckibjpaiealaaGp
set_option linter.unusedVariables false
set_option linter.unusedSimpArgs false
namespace Go.Proofs.Ytbckibjpaiealaa.F
open Go.RowKit Go.Proofs.YtbckibjpaiealaaW.PrintWords

theorem OwnN.form {k : IntKind} {e : TypeId} {W : World} {base : Nat} {v : Value} {xs : List Nat} (h : OwnN k e W base v xs) : ∃ A c, v = .slice A xs.length c ∧ xs.length ≤ c ∧ RN k W A xs ∧ (A = none → c = 0) := by
  obtain ⟨A, c, rfl, hc, hr⟩ := h.reads
  refine ⟨A, c, rfl, hc, hr, fun hA => ?_⟩
  subst hA
  rcases h.2 with ⟨h1, _⟩ | ⟨g, cap, cur, h1, _⟩
  · injection h1
  · injection h1 with h1; cases h1

theorem frozen_setCell (w : World) (a : Addr) (v : Value) (B k : Nat) : (w.setCell a v).frozen? ⟨B, k, none⟩ = w.frozen? ⟨B, k, none⟩ := by
  by_cases hb : a.block = B
  · simp only [World.frozen?, World.setCell, Array.getElem?_modify, hb, if_true]
    cases h : w.heap[B]? with
    | none => rfl
    | some o => cases o <;> rfl
  · have h := Deep.blk_setCell_other w a v B (fun h => hb h.symm)
    simp [World.frozen?, h]

set_option maxRecDepth 20000 in
set_option maxHeartbeats 2000000 in
theorem Write_c (W : World) (base0 B : Nat) (mn av mx : Nat) (tb : List Nat) (hv : Value) (xs : List Nat) (A : Option Addr) (c : Nat) (p : List Nat) (ht : tb.length = 256) (hav : 1 ≤ av) (hav2 : av ≤ 256)
    (hc : CU W B mn av mx tb hv (ghash tb xs) false) (ho : OwnN .u8 5 W base0 hv xs) (hr : RN .u8 W A p) (hp : ∀ x ∈ p, x < 256) (hA : ∀ a, A = some a → 0 < p.length → a.block < W.heap.size ∧ a.block ≠ B) (hl : (xs.length + p.length + 1) * 24 ≤ 140737488355328) :
    Calls Try.prog 20 #[.pointer (some ⟨B, 0, none⟩), .slice A p.length c] W fun e w' =>
      ∃ vo okc hv', e = .returned (.tuple #[vo, .int .i64 0]) ∧ SRow w' okc W.heap.size 32 vo (p.foldl (gstep mn av mx tb) ([], xs)).1 ∧ (∀ k, okc k → W.heap.size ≤ k ∧ hv'.ownBlock ≠ some k) ∧
        CU w' B mn av mx tb hv' (ghash tb (p.foldl (gstep mn av mx tb) ([], xs)).2) false ∧ OwnN .u8 5 w' W.heap.size hv' (p.foldl (gstep mn av mx tb) ([], xs)).2 ∧ KF W.heap.size B W w' := by
  obtain ⟨A0, c0, hv0, hc0, hr0, hA0⟩ := ho.form
  obtain ⟨W1, hW1⟩ : ∃ W1, W.alloc (.cells #[.pointer (some ⟨B, 0, none⟩)] 42) = W1 := ⟨_, rfl⟩
  have hB1 : Below W.heap.size W W1 := by rw [← hW1]; exact (Below.refl _ _).alloc (Nat.le_refl _) _
  have hbv : Boxed W1 W.heap.size 42 (.pointer (some ⟨B, 0, none⟩)) := by rw [← hW1]; exact Boxed.new _ _ _
  have hc1 : CU W1 B mn av mx tb hv (ghash tb xs) false := hc.move (hB1.block B hc.lt)
  have hr1 : RN .u8 W1 A0 xs := hr0.below hB1
  have k1 := hbv.cell
  have k2 := hc1.gEnded ht
  have k3 := hc1.gHeld ht
  have z3 := hc1.frozen 259
  rw [hv0] at k3
  have lB := hc.lt
  have HV := Lib.hid hv0
  have HC := Lib.hid hc
  have HO := Lib.hid ho
  have HC1 := Lib.hid hc1
  have HR1 := Lib.hid hr1
  have HBV := Lib.hid hbv
  have HL := Lib.hid hl
  have hx : xs.length ≤ 140737488355328 := by omega
  have HX := Lib.hid hx
  have HB1 := Lib.hid hB1
  have HR := Lib.hid hr
  clear hv0 hc ho hc1 hr1 hbv hl hx hr0 hr
  have hgt : W1.heap.size = W.heap.size + 1 := by rw [← hW1]; simp
  have HGT := Lib.hid hgt
  clear hgt
  have frz_move : ∀ {W W' : World} {a : Addr}, W'.heap[a.block]? = W.heap[a.block]? → W'.frozen? a = W.frozen? a := fun {W W' a} h => by simp [World.frozen?, h]
  have hVB : B ≠ W.heap.size := by omega
  go_enter Try.func20, Try.ntmps20
  go_wp2_with fail
  refine wp_region_held_drew (S := fun w' => w'.cell? ⟨W.heap.size, 0, none⟩ = some (.pointer (some ⟨B, 0, none⟩)) ∧ w'.frozen? ⟨B, 259, none⟩ = false) (by kernel_rfl) ⟨k1, z3⟩ (fun hHeld => ?_)
  refine wpAnyH_take (i := 0) (v := ?_) rfl (by kernel_rfl) (by kernel_rfl) (by kernel_rfl) (fun _ _ _ h => h) (Or.inl ⟨by rfl, ?_⟩) (by assumption) ?_
  rotate_left 1
  · (intro w hSw; (try dsimp only at hSw); go_split_ands; go_simp; try with_reducible rfl)
  simp only [Act.put, List.setIfInBounds_toArray, List.set_cons_zero, List.set_cons_succ]
  refine wpAnyH_take (i := 1) (v := ?_) rfl (by kernel_rfl) (by kernel_rfl) (by kernel_rfl) (fun _ _ _ h => h) (Or.inl ⟨by rfl, ?_⟩) (by assumption) ?_
  rotate_left 1
  · (intro w hSw; (try dsimp only at hSw); go_split_ands; go_simp; try with_reducible rfl)
  simp only [Act.put, List.setIfInBounds_toArray, List.set_cons_zero, List.set_cons_succ]
  refine wpAnyH_take (i := 2) (v := ?_) rfl (by kernel_rfl) (by kernel_rfl) (by kernel_rfl) (fun _ _ _ h => h) (Or.inl ⟨by rfl, ?_⟩) (by assumption) ?_
  rotate_left 1
  · (intro w hSw; (try dsimp only at hSw); go_split_ands; go_simp; try with_reducible rfl)
  simp only [Act.put, List.setIfInBounds_toArray, List.set_cons_zero, List.set_cons_succ]
  refine wpAnyH_take (i := 3) (v := ?_) rfl (by kernel_rfl) (by kernel_rfl) (by kernel_rfl) (fun _ _ _ h => h) (Or.inl ⟨by rfl, ?_⟩) (by assumption) ?_
  rotate_left 1
  · (intro w hSw; (try dsimp only at hSw); go_split_ands; go_simp; try with_reducible rfl)
  simp only [Act.put, List.setIfInBounds_toArray, List.set_cons_zero, List.set_cons_succ]
  refine wpAnyH_ready (rs := [4]) (by kernel_rfl) (by simp) (AllReadyH.cons rfl (fun K hK => ?_) AllReadyH.nil)
  go_simp
  refine hK.out _ _ (hHeld) (fun hHeld => ?_)
  clear hK K
  refine wpAnyH_ready (rs := [5]) (by kernel_rfl) (by simp) (AllReadyH.cons rfl (fun K hK => ?_) AllReadyH.nil)
  go_simp
  go_at_call 25
  refine (Clone_c A0 c0 xs W1.drew (HR1.out.move (fun _ _ => rfl)) hc0 HX.out hA0).mono ?_
  rintro e w2 ⟨v2, rfl, ho2, hb2⟩
  obtain ⟨A2, c2, rfl, hc2, hr2⟩ := ho2.reads
  have KV := (cell_move (a := ⟨W.heap.size, 0, none⟩) (hb2.block W.heap.size (by have := HGT.out; simp; omega))).trans k1
  have KF1 := (frz_move (a := ⟨B, 259, none⟩) (hb2.block B (by have := HGT.out; simp; omega))).trans z3
  have KH := (cell_move (a := ⟨B, 259, none⟩) (hb2.block B (by have := HGT.out; simp; omega))).trans k3
  go_wp2_with fail
  refine hK.out _ _ (⟨KV, KF1⟩) (fun hHeld => ?_)
  clear hK K
  refine wpAnyH_take (i := 6) (v := ?_) rfl (by kernel_rfl) (by kernel_rfl) (by kernel_rfl) (fun _ _ _ h => h) (Or.inl ⟨by rfl, ?_⟩) (by assumption) ?_
  rotate_left 1
  · (intro w hSw; (try dsimp only at hSw); go_split_ands; go_simp; try with_reducible rfl)
  simp only [Act.put, List.setIfInBounds_toArray, List.set_cons_zero, List.set_cons_succ]
  refine wpAnyH_take (i := 7) (v := ?_) rfl (by kernel_rfl) (by kernel_rfl) (by kernel_rfl) (fun _ _ _ h => h) (Or.inl ⟨by rfl, ?_⟩) (by assumption) ?_
  rotate_left 1
  · (intro w hSw; (try dsimp only at hSw); go_split_ands; go_simp; try with_reducible rfl)
  simp only [Act.put, List.setIfInBounds_toArray, List.set_cons_zero, List.set_cons_succ]
  refine wpAnyH_ready (rs := [8]) (by kernel_rfl) (by simp) (AllReadyH.cons rfl (fun K hK => ?_) AllReadyH.nil)
  go_simp
  refine hK.out _ _ (⟨(World.cell?_setCell_far _ _ _ _ hVB).trans KV, (frozen_setCell _ _ _ _ _).trans KF1⟩) (fun hHeld => ?_)
  clear hK K
  refine wpAnyH_done (by kernel_rfl) ?_ _
  have ho3 : OwnN .u8 5 w2 W1.heap.size (.slice A2 xs.length c2) xs := ho2
  have hb3 : Below W1.heap.size W1 w2 := ⟨hb2.os, hb2.tape, hb2.output, hb2.size, hb2.block⟩
  clear ho2 hb2 KV KF1 hr2
  have hc2 : CU w2 B mn av mx tb hv (ghash tb xs) false := HC1.out.move (hb3.block B (by have := HGT.out; omega))
  have hc4 := hc2.setHeld ht (.slice A2 xs.length c2)
  obtain ⟨W4, hW4⟩ : ∃ W4, w2.setCell ⟨B, 259, none⟩ (.slice A2 xs.length c2) = W4 := ⟨_, rfl⟩
  rw [hW4] at hc4 ⊢
  have hw4 : ∀ k, k ≠ B → W4.heap[k]? = w2.heap[k]? := fun k hk => by rw [← hW4]; exact Deep.blk_setCell_other _ _ _ _ hk
  have hs4 : W4.heap.size = w2.heap.size := by rw [← hW4]; exact Deep.nblk_setCell _ _ _
  have hs3 := hb3.size
  have hgt := HGT.out
  have hbv4 : Boxed W4 W.heap.size 42 (.pointer (some ⟨B, 0, none⟩)) := (hw4 _ (Ne.symm hVB)).trans ((hb3.block _ (by omega)).trans HBV.out)
  have ho4 : OwnN .u8 5 W4 W1.heap.size (.slice A2 xs.length c2) xs := ho3.move (fun k hk => hw4 k (by have := (ho3.typed k hk).1; omega))
  have hk4 : KF W.heap.size B W W4 := ⟨by rw [← hW4]; exact hb3.os.trans HB1.out.os, by rw [← hW4]; exact hb3.tape.trans HB1.out.tape, by rw [← hW4]; exact hb3.output.trans HB1.out.output, by omega, fun k hk hkB => (hw4 k hkB).trans ((hb3.block k (by omega)).trans (HB1.out.block k hk))⟩
  obtain ⟨W5, hW5⟩ : ∃ W5, W4.alloc (.cells #[.slice none 0 0] 34) = W5 := ⟨_, rfl⟩
  have hB5 : Below W4.heap.size W4 W5 := by rw [← hW5]; exact (Below.refl _ _).alloc (Nat.le_refl _) _
  have hfs : FS W5 W.heap.size W4.heap.size W.heap.size B mn av mx tb (fun _ => False) (.slice none 0 0) [] (.slice A2 xs.length c2) xs :=
    ⟨by omega, Nat.le_refl _, by rw [← hW5]; exact Boxed.new _ _ _, (hB5.block _ (by omega)).trans hbv4, hc4.move (hB5.block B (by omega)), SRow.nil _ _ _, (ho4.lower (by omega)).move (fun k hk => hB5.block k (by have := (ho4.typed k hk).2.1; omega)), fun _ h => h.elim⟩
  have hk5 : KF W.heap.size B W W5 := hk4.trans ⟨hB5.os, hB5.tape, hB5.output, hB5.size, fun k hk _ => hB5.block k (by omega)⟩
  have hrp : RN .u8 W5 A p := HR.out.move2 (fun a ha h0 => hk5.block a.block (hA a ha h0).1 (hA a ha h0).2)
  have HFS := Lib.hid hfs
  have HK5 := Lib.hid hk5
  have HRP := Lib.hid hrp
  have HW5 := Lib.hid hW5
  have q1 := (hfs.bv).cell
  have hmf27 : True := trivial
  clear hfs hk5 hrp hW5 hk4 ho4 hc4 hc2 hw4 hs4 hs3 hgt ho3 hb3 KH
  go_wp2_with (rw [HW5.out])
  refine (feed_c W5 W.heap.size W4.heap.size W.heap.size B mn av mx tb _ _ [] _ xs A c p ht hav hav2 HFS.out HRP.out hp hA (by simpa using HL.out)).mono ?_
  rintro e w6 ⟨vo, okc, hv', rfl, hf6, hk6⟩
  have q2 := hf6.bo.cell
  have HF6 := Lib.hid hf6
  have HK6 := Lib.hid hk6
  clear hf6 hk6
  go_wp2_with fail
  go_ret2
  exact ⟨_, okc, hv', rfl, HF6.out.so, fun k hk => ⟨(HF6.out.ok k hk).1, (HF6.out.ok k hk).2.2⟩, HF6.out.cu, HF6.out.oh, HK5.out.trans HK6.out⟩

theorem End_c (W : World) (base0 B : Nat) (mn av mx : Nat) (tb : List Nat) (hv : Value) (xs : List Nat) (ht : tb.length = 256) 
    (hc : CU W B mn av mx tb hv (ghash tb xs) false) (ho : OwnN .u8 5 W base0 hv xs) (hl : xs.length ≤ 140737488355328) :
    Calls Try.prog 22 #[.pointer (some ⟨B, 0, none⟩)] W fun e w' =>
      ∃ v, e = .returned (.tuple #[v, .int .i64 0]) ∧ OwnN .u8 5 w' W.heap.size v xs ∧ CU w' B mn av mx tb (.slice none 0 0) 0 true ∧ KF W.heap.size B W w' := by
  obtain ⟨A0, c0, hv0, hc0, hr0, hA0⟩ := ho.form
  have k2 := hc.gEnded ht
  have k3 := hc.gHeld ht
  rw [hv0] at k3
  have HC := Lib.hid hc
  have lB := hc.lt
  clear hc ho
  go_enter Try.func22, Try.ntmps22
  go_wp2_with fail
  refine (Clone_c A0 c0 xs W hr0 hc0 hl hA0).mono ?_
  rintro e w2 ⟨v, rfl, ho2, hb2⟩
  have hc2 : CU w2 B mn av mx tb hv (ghash tb xs) false := HC.out.move (hb2.block B lB)
  have j1 := hc2.gHeld ht
  have j2 := hc2.gHash ht
  have j3 := hc2.gEnded ht
  have z1 := hc2.frozen 259
  have z2 := hc2.frozen 260
  have z3 := hc2.frozen 261
  have hc5 := (((hc2.setHeld ht (.slice none 0 0)).setHash ht 0).setEnded ht true)
  have ho5 : OwnN .u8 5 (((w2.setCell ⟨B, 259, none⟩ (.slice none 0 0)).setCell ⟨B, 260, none⟩ (.int .u32 (0 : Nat))).setCell ⟨B, 261, none⟩ (.bool true)) W.heap.size v xs := ho2.move (fun k hk => by
    have h1 : k ≠ B := by have := (ho2.typed k hk).1; omega
    rw [Deep.blk_setCell_other _ _ _ _ h1, Deep.blk_setCell_other _ _ _ _ h1, Deep.blk_setCell_other _ _ _ _ h1])
  have hk5 : KF W.heap.size B W (((w2.setCell ⟨B, 259, none⟩ (.slice none 0 0)).setCell ⟨B, 260, none⟩ (.int .u32 (0 : Nat))).setCell ⟨B, 261, none⟩ (.bool true)) :=
    ⟨hb2.os, hb2.tape, hb2.output, by rw [Deep.nblk_setCell, Deep.nblk_setCell, Deep.nblk_setCell]; exact hb2.size, fun k hk h1 => by
      rw [Deep.blk_setCell_other _ _ _ _ h1, Deep.blk_setCell_other _ _ _ _ h1, Deep.blk_setCell_other _ _ _ _ h1]; exact hb2.block k hk⟩
  have H5 := Lib.hid hc5
  have O5 := Lib.hid ho5
  have K5 := Lib.hid hk5
  clear hc2 hc5 ho5 hk5 hb2 ho2
  go_wp2_with fail
  go_ret2
  exact ⟨v, rfl, O5.out, H5.out, K5.out⟩

theorem Held_c (W : World) (base0 B : Nat) (mn av mx : Nat) (tb : List Nat) (hv : Value) (xs : List Nat) (h : Nat) (en : Bool) (ht : tb.length = 256) 
    (hc : CU W B mn av mx tb hv h en) (ho : OwnN .u8 5 W base0 hv xs) :
    Calls Try.prog 21 #[.pointer (some ⟨B, 0, none⟩)] W fun e w' => e = .returned (.int .i64 xs.length) ∧ w' = W := by
  obtain ⟨A0, c0, hv0, hc0, hr0, hA0⟩ := ho.form
  have k3 := hc.gHeld ht
  rw [hv0] at k3
  go_enter Try.func21, Try.ntmps21
  go_wp2_with fail
  go_ret
  exact ⟨rfl, rfl⟩
end Go.Proofs.Ytbckibjpaiealaa.F
