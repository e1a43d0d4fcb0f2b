/- A hash at hand, by the bytes that were written. -/
import Derived.Test.YtdmkfdealedgoaaDu
import Derived.Test.YtdmkfdealedgoaaDh2
set_option linter.unusedVariables false
set_option linter.unusedSimpArgs false
namespace Go.Proofs.Ytdmkfdealedgoaa.F
open Go.RowKit Go.Proofs.YtdmkfdealedgoaaW.PrintWords

theorem mixes_next (p ps : List Nat) :
    mixes (mixes beginS p (p.length / 64)) (p.drop (64 * (p.length / 64)) ++ ps) ((p.drop (64 * (p.length / 64)) ++ ps).length / 64) = mixes beginS (p ++ ps) ((p ++ ps).length / 64) ∧
    (p.drop (64 * (p.length / 64)) ++ ps).drop (64 * ((p.drop (64 * (p.length / 64)) ++ ps).length / 64)) = (p ++ ps).drop (64 * ((p ++ ps).length / 64)) := by
  have hd : (p ++ ps).drop (64 * (p.length / 64)) = p.drop (64 * (p.length / 64)) ++ ps := List.drop_append_of_le_length (by omega)
  have hl : (p ++ ps).length / 64 = p.length / 64 + (p.drop (64 * (p.length / 64)) ++ ps).length / 64 := by
    rw [List.length_append, List.length_append, List.length_drop]
    omega
  constructor
  · rw [hl, mixes_add, hd, mixes_app _ p ps _ (by omega)]
  · rw [hl, ← hd, List.drop_drop]
    congr 1
    omega
/-- Block B is a hash of the bytes p. -/
def HH (W : World) (B : Nat) (p : List Nat) : Prop :=
  ∃ C c, HB W B (mixes beginS p (p.length / 64)) (.slice C (p.drop (64 * (p.length / 64))).length c) p.length ∧ RN .u8 W C (p.drop (64 * (p.length / 64))) ∧ (p.drop (64 * (p.length / 64))).length ≤ c ∧ (C = none → c = 0)
theorem HH.lt {W : World} {B : Nat} {p : List Nat} (h : HH W B p) : B < W.heap.size := by
  obtain ⟨C, c, h, _⟩ := h
  exact h.lt
theorem HH.below {W W' : World} {B : Nat} {p : List Nat} (h : HH W B p) (hb : Below W.heap.size W W') : HH W' B p := by
  obtain ⟨C, c, h1, h2, h3, h4⟩ := h
  exact ⟨C, c, h1.below hb, h2.below hb, h3, h4⟩
theorem HH.apart {W W' : World} {B B2 : Nat} {p q : List Nat} (h : HH W B p) (h2 : HH W B2 q) (hne : B ≠ B2) (hb : ButB B2 W.heap.size W W') : HH W' B p := by
  obtain ⟨C, c, h1, h2', h3, h4⟩ := h
  obtain ⟨C2, c2, g1, _⟩ := h2
  exact ⟨C, c, h1.move (hb.block B h1.lt hne), h2'.apart g1 (fun k hk hk2 => hb.block k hk hk2), h3, h4⟩
theorem HH.bytes {W W' : World} {B : Nat} {p : List Nat} {A : Option Addr} {xs : List Nat} (h : HH W B p) (hr : RN .u8 W A xs) (hb : ButB B W.heap.size W W') : RN .u8 W' A xs := by
  obtain ⟨C, c, h1, _⟩ := h
  exact hr.apart h1 (fun k hk hk2 => hb.block k hk hk2)
theorem New_h (w : World) : Calls Try.prog 15 #[] w fun e w' => ∃ B, e = .returned (.pointer (some ⟨B, 0, none⟩)) ∧ w.heap.size ≤ B ∧ HH w' B [] ∧ Below w.heap.size w w' := by
  refine (NewH_c w).mono ?_
  rintro e w' ⟨B, rfl, h1, _, h3, h4⟩
  exact ⟨B, rfl, h1, ⟨none, 0, h3, RN.nil _ _, Nat.le_refl _, fun _ => rfl⟩, h4⟩
theorem Write_h (B : Nat) (p : List Nat) (A : Option Addr) (d : Nat) (ps : List Nat) (W : World) (h : HH W B p) (hb : ∀ x ∈ p, x < 256) (hp : RN .u8 W A ps) (hpb : ∀ x ∈ ps, x < 256) (hl : p.length + ps.length ≤ 140737488355328) :
    Calls Try.prog 16 #[.pointer (some ⟨B, 0, none⟩), .slice A ps.length d] W fun e W' => e = .returned (.int .i64 0) ∧ HH W' B (p ++ ps) ∧ ButB B W.heap.size W W' := by
  obtain ⟨C, c, h1, h2, h3, h4⟩ := h
  have hok := mixes_ok beginS_ok p (p.length / 64)
  refine (Write_c B _ C c _ p.length A d ps W hok h1 h2 h3 h4 (fun x hx => hb x (List.mem_of_mem_drop hx)) hp hpb (by omega) (by rw [List.length_drop]; omega)).mono ?_
  rintro e W' ⟨rfl, C', c', g1, g2, g3, g4, _, g6⟩
  obtain ⟨e1, e2⟩ := mixes_next p ps
  rw [e1, e2] at g1
  rw [e2] at g2 g3
  exact ⟨rfl, ⟨C', c', by rw [show (p ++ ps).length = p.length + ps.length from List.length_append] at g1 ⊢; exact g1, g2, g3, g4⟩, g6⟩
theorem Write_nil (v : Value) (w : World) :
    Calls Try.prog 16 #[.pointer none, v] w fun e w' => e = .returned (.int .i64 1) ∧ Below w.heap.size w w' := by
  go_enter Try.func16, Try.ntmps16
  go_wp2_with fail
  go_ret
  exact ⟨rfl, Below.refl _ _⟩
theorem Fork_h (B : Nat) (p : List Nat) (W : World) (h : HH W B p) (hl : p.length ≤ 140737488355328) :
    Calls Try.prog 19 #[.pointer (some ⟨B, 0, none⟩)] W fun e W' => ∃ B', e = .returned (.pointer (some ⟨B', 0, none⟩)) ∧ W.heap.size ≤ B' ∧ HH W' B' p ∧ Below W.heap.size W W' := by
  obtain ⟨C, c, h1, h2, h3, h4⟩ := h
  refine (Fork_c B _ C c _ p.length W h1 h2 h3 h4 (by rw [List.length_drop]; omega)).mono ?_
  rintro e W' ⟨B', C', c', rfl, g1, g2, g3, g4, g5, g6⟩
  exact ⟨B', rfl, g1, ⟨C', c', g2, g3, g4, g5⟩, g6⟩
theorem Sum_h (B : Nat) (p : List Nat) (W : World) (h : HH W B p) (hb : ∀ x ∈ p, x < 256) (hl : p.length ≤ 140737488355328) :
    Calls Try.prog 17 #[.pointer (some ⟨B, 0, none⟩)] W fun e W' => e = .returned (.agg (shaA p)) ∧ Below W.heap.size W W' := by
  obtain ⟨C, c, h1, h2, h3, h4⟩ := h
  exact SumH_c B p C c W h1 h2 h3 h4 hb (by omega)
theorem Len_h (B : Nat) (p : List Nat) (W : World) (h : HH W B p) :
    Calls Try.prog 18 #[.pointer (some ⟨B, 0, none⟩)] W fun e W' => e = .returned (.int .i64 p.length) ∧ W' = W := by
  obtain ⟨C, c, h1, _⟩ := h
  exact Len_c B _ _ _ W h1
/-- The same, its rest in a block from N on. -/
def HF (N : Nat) (W : World) (B : Nat) (p : List Nat) : Prop :=
  ∃ C c, HB W B (mixes beginS p (p.length / 64)) (.slice C (p.drop (64 * (p.length / 64))).length c) p.length ∧ RN .u8 W C (p.drop (64 * (p.length / 64))) ∧ (p.drop (64 * (p.length / 64))).length ≤ c ∧ (C = none → c = 0) ∧ ∀ a, C = some a → N ≤ a.block
theorem HF.hh {N : Nat} {W : World} {B : Nat} {p : List Nat} (h : HF N W B p) : HH W B p := by
  obtain ⟨C, c, h1, h2, h3, h4, _⟩ := h
  exact ⟨C, c, h1, h2, h3, h4⟩
theorem HF.move {N : Nat} {W W' : World} {B : Nat} {p : List Nat} (h : HF N W B p) (hb : W'.heap[B]? = W.heap[B]?) (hm : ∀ k, N ≤ k → k < W.heap.size → W'.heap[k]? = W.heap[k]?) : HF N W' B p := by
  obtain ⟨C, c, h1, h2, h3, h4, h5⟩ := h
  refine ⟨C, c, h1.move hb, ?_, h3, h4, h5⟩
  have hr := Kd.reads_of_C (enc := encN .u8) (d := 0) (h1 := fun _ => rfl) h2
  refine Kd.C_of_reads (d := 0) ⟨hr.1, hr.2.1, fun hp => ?_⟩
  obtain ⟨ad, e, hc⟩ := hr.2.2 hp
  refine ⟨ad, e, fun j hj => ?_⟩
  have hcj := hc j hj
  have hlt : (ad.add j).block < W.heap.size := World.block_lt_of_cell? _ _ hcj
  rw [add_blk] at hlt
  exact (cell_move (a := ad.add j) (by rw [add_blk]; exact hm _ (h5 ad e) hlt)).trans hcj
theorem Write_f (B : Nat) (p : List Nat) (A : Option Addr) (d : Nat) (ps : List Nat) (W : World) (h : HH W B p) (hb : ∀ x ∈ p, x < 256) (hp : RN .u8 W A ps) (hpb : ∀ x ∈ ps, x < 256) (hl : p.length + ps.length ≤ 140737488355328) :
    Calls Try.prog 16 #[.pointer (some ⟨B, 0, none⟩), .slice A ps.length d] W fun e W' => e = .returned (.int .i64 0) ∧ HF W.heap.size W' B (p ++ ps) ∧ ButB B W.heap.size W W' := by
  obtain ⟨C, c, h1, h2, h3, h4⟩ := h
  have hok := mixes_ok beginS_ok p (p.length / 64)
  refine (Write_c B _ C c _ p.length A d ps W hok h1 h2 h3 h4 (fun x hx => hb x (List.mem_of_mem_drop hx)) hp hpb (by omega) (by rw [List.length_drop]; omega)).mono ?_
  rintro e W' ⟨rfl, C', c', g1, g2, g3, g4, g5, g6⟩
  obtain ⟨e1, e2⟩ := mixes_next p ps
  rw [e1, e2] at g1
  rw [e2] at g2 g3
  exact ⟨rfl, ⟨C', c', by rw [show (p ++ ps).length = p.length + ps.length from List.length_append] at g1 ⊢; exact g1, g2, g3, g4, g5⟩, g6⟩
end Go.Proofs.Ytdmkfdealedgoaa.F
