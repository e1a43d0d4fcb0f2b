/- Bytes written to a sum that goes on. -/
import Derived.Test.YtejmklfhcealnaaDh
import Derived.Deep.RegionHeld3
import Derived.Deep.DrawnRows
set_option linter.unusedVariables false
set_option linter.unusedSimpArgs false
set_option maxRecDepth 20000
namespace Go.Proofs.Ytejmklfhcealnaa.F
open Go.RowKit Go.Proofs.YtejmklfhcealnaaW.PrintWords

/-- All blocks below N but B are as they were. -/
structure ButB (B N : Nat) (w w' : World) : Prop where
  os : w'.os = w.os
  tape : w'.tape = w.tape
  output : w'.output = w.output
  size : w.heap.size ≤ w'.heap.size
  block : ∀ k, k < N → k ≠ B → w'.heap[k]? = w.heap[k]?
theorem ButB.refl (B N : Nat) (w : World) : ButB B N w w := ⟨rfl, rfl, rfl, Nat.le_refl _, fun _ _ _ => rfl⟩
theorem ButB.trans {B N : Nat} {a b c : World} (h : ButB B N a b) (h' : ButB B N b c) : ButB B N a c :=
  ⟨h'.os.trans h.os, h'.tape.trans h.tape, h'.output.trans h.output, Nat.le_trans h.size h'.size, fun k hk hb => (h'.block k hk hb).trans (h.block k hk hb)⟩
theorem ButB.of {B N : Nat} {a b : World} (h : Below N a b) : ButB B N a b := ⟨h.os, h.tape, h.output, h.size, fun k hk _ => h.block k hk⟩
theorem ButB.below {B N : Nat} {a b : World} (h : ButB B N a b) (hB : N ≤ B) : Below N a b := ⟨h.os, h.tape, h.output, h.size, fun k hk => h.block k hk (by omega)⟩
theorem ButB.mono {B N M : Nat} {a b : World} (h : ButB B N a b) (hm : M ≤ N) : ButB B M a b := ⟨h.os, h.tape, h.output, h.size, fun k hk => h.block k (by omega)⟩
theorem ButB.setCell {B N : Nat} {a b : World} (h : ButB B N a b) (o : Nat) (v : Value) : ButB B N a (b.setCell ⟨B, o, none⟩ v) :=
  ⟨h.os, h.tape, h.output, by simpa using h.size, fun k hk hb => (heap_setCell_other _ _ _ _ hb).trans (h.block k hk hb)⟩
theorem HB.cells {W : World} {B : Nat} {s : St} {v : Value} {n : Nat} (h : HB W B s v n) :
    W.cell? ⟨B, 0, none⟩ = some (.int .u32 s.a) ∧ W.cell? ⟨B, 1, none⟩ = some (.int .u32 s.b) ∧ W.cell? ⟨B, 2, none⟩ = some (.int .u32 s.c) ∧ W.cell? ⟨B, 3, none⟩ = some (.int .u32 s.d) ∧
    W.cell? ⟨B, 4, none⟩ = some (.int .u32 s.e) ∧ W.cell? ⟨B, 5, none⟩ = some (.int .u32 s.f) ∧ W.cell? ⟨B, 6, none⟩ = some (.int .u32 s.g) ∧ W.cell? ⟨B, 7, none⟩ = some (.int .u32 s.h) ∧
    W.cell? ⟨B, 8, none⟩ = some v ∧ W.cell? ⟨B, 9, none⟩ = some (.int .i64 n) := by
  refine ⟨?_, ?_, ?_, ?_, ?_, ?_, ?_, ?_, ?_, ?_⟩ <;> (rw [cell_of_row _ _ _ _ _ _ h]; rfl)
theorem HB.free {W : World} {B : Nat} {s : St} {v : Value} {n : Nat} (h : HB W B s v n) (o : Nat) : W.frozen? ⟨B, o, none⟩ = false := frozen_of_row _ _ _ _ _ h
theorem HB.lt {W : World} {B : Nat} {s : St} {v : Value} {n : Nat} (h : HB W B s v n) : B < W.heap.size := (Array.getElem?_eq_some_iff.1 h).1
theorem HB.move {W W' : World} {B : Nat} {s : St} {v : Value} {n : Nat} (h : HB W B s v n) (hm : W'.heap[B]? = W.heap[B]?) : HB W' B s v n := hm.trans h
theorem HB.below {W W' : World} {B : Nat} {s : St} {v : Value} {n : Nat} (h : HB W B s v n) (hb : Below W.heap.size W W') : HB W' B s v n := h.move (hb.block B h.lt)
theorem HB.size {W : World} {B : Nat} {s : St} {v : Value} {n : Nat} (h : HB W B s v n) (m : Nat) : HB (W.setCell ⟨B, 9, none⟩ (.int .i64 m)) B s v m := by
  unfold HB; rw [heap_setCell_same _ _ _ _ _ _ h]; rfl
theorem HB.rest {W : World} {B : Nat} {s : St} {v : Value} {n : Nat} (h : HB W B s v n) (v' : Value) : HB (W.setCell ⟨B, 8, none⟩ v') B s v' n := by
  unfold HB; rw [heap_setCell_same _ _ _ _ _ _ h]; rfl
/-- The state stored anew. -/
def put8 (W : World) (B : Nat) (t : St) : World :=
  (((((((W.setCell ⟨B, 0, none⟩ (.int .u32 t.a)).setCell ⟨B, 1, none⟩ (.int .u32 t.b)).setCell ⟨B, 2, none⟩ (.int .u32 t.c)).setCell ⟨B, 3, none⟩ (.int .u32 t.d)).setCell ⟨B, 4, none⟩ (.int .u32 t.e)).setCell ⟨B, 5, none⟩ (.int .u32 t.f)).setCell ⟨B, 6, none⟩ (.int .u32 t.g)).setCell ⟨B, 7, none⟩ (.int .u32 t.h)
theorem sets8 (s t : St) (v : Value) (n : Nat) : ((((((((hbA s v n).setIfInBounds 0 (.int .u32 t.a)).setIfInBounds 1 (.int .u32 t.b)).setIfInBounds 2 (.int .u32 t.c)).setIfInBounds 3 (.int .u32 t.d)).setIfInBounds 4 (.int .u32 t.e)).setIfInBounds 5 (.int .u32 t.f)).setIfInBounds 6 (.int .u32 t.g)).setIfInBounds 7 (.int .u32 t.h) = hbA t v n := by
  simp [hbA]
theorem HB.put8 {W : World} {B : Nat} {s : St} {v : Value} {n : Nat} (h : HB W B s v n) (t : St) : HB (put8 W B t) B t v n := by
  have h0 := heap_setCell_same W B 0 _ _ (.int .u32 t.a) h
  have h1 := heap_setCell_same _ B 1 _ _ (.int .u32 t.b) h0
  have h2 := heap_setCell_same _ B 2 _ _ (.int .u32 t.c) h1
  have h3 := heap_setCell_same _ B 3 _ _ (.int .u32 t.d) h2
  have h4 := heap_setCell_same _ B 4 _ _ (.int .u32 t.e) h3
  have h5 := heap_setCell_same _ B 5 _ _ (.int .u32 t.f) h4
  have h6 := heap_setCell_same _ B 6 _ _ (.int .u32 t.g) h5
  have h7 := heap_setCell_same _ B 7 _ _ (.int .u32 t.h) h6
  exact h7.trans (by rw [sets8])
theorem ButB.put8 {B N : Nat} {a b : World} (h : ButB B N a b) (t : St) : ButB B N a (put8 b B t) :=
  (((((((h.setCell 0 _).setCell 1 _).setCell 2 _).setCell 3 _).setCell 4 _).setCell 5 _).setCell 6 _).setCell 7 _
theorem hbA_u8 {s : St} {v : Value} {n i : Nat} {x : Int} (h : (hbA s v n)[i]? = some (.int .u8 x)) : v = .int .u8 x := by
  unfold hbA at h
  rcases i with _ | _ | _ | _ | _ | _ | _ | _ | _ | _ | i <;> simp at h
  exact h
/-- Bytes that are read lie in another block than the hash. -/
theorem RN.apart {W W' : World} {B : Nat} {s : St} {C : Option Addr} {m c : Nat} {n : Nat} {A : Option Addr} {xs : List Nat} (hr : RN .u8 W A xs) (h : HB W B s (.slice C m c) n) (hm : ∀ k, k < W.heap.size → k ≠ B → W'.heap[k]? = W.heap[k]?) : RN .u8 W' A xs := by
  have hr' := Kd.reads_of_C (enc := encN .u8) (d := 0) (h1 := fun _ => rfl) hr
  refine Kd.C_of_reads (d := 0) ⟨hr'.1, hr'.2.1, fun hp => ?_⟩
  obtain ⟨ad, e, hc⟩ := hr'.2.2 hp
  refine ⟨ad, e, fun j hj => ?_⟩
  have hcj := hc j hj
  have hlt : (ad.add j).block < W.heap.size := World.block_lt_of_cell? _ _ hcj
  have hne : ad.block ≠ B := by
    intro e
    unfold World.cell? at hcj
    rw [add_blk, e, h] at hcj
    dsimp only at hcj
    split at hcj
    · cases hcj
    · have := hbA_u8 hcj
      cases this
  rw [add_blk] at hlt
  have hq : W'.cell? (ad.add j) = W.cell? (ad.add j) := cell_move (by rw [add_blk]; exact hm _ hlt hne)
  exact hq.trans hcj
theorem below_grown {k : IntKind} {e : TypeId} {B : Nat} {W W' : World} {v : Value} {xs : List Nat} (ho : OwnN k e W B v xs) (hb : B ≤ W.heap.size) (hg : W.grownBy W' v.ownBlock) : Below B W W' :=
  ⟨hg.os, hg.tape, hg.output, hg.size, fun j hj => hg.block j (by omega) (fun hh => by have := (ho.typed j hh.symm).1; omega)⟩
theorem OwnN.form {k : IntKind} {e : TypeId} {W : World} {base : Nat} {v : Value} {xs : List Nat} (h : OwnN k e W base v xs) :
    ∃ A c, v = .slice A xs.length c ∧ xs.length ≤ c ∧ (A = none → c = 0) ∧ (∀ a, A = some a → base ≤ a.block ∧ a.block < W.heap.size) ∧ RN k W A xs := by
  obtain ⟨A, c, e, hc, hr⟩ := h.reads
  refine ⟨A, c, e, hc, ?_, ?_, hr⟩
  · rcases h.2 with ⟨e2, _⟩ | ⟨g, cap, cur, e2, _⟩
    · rw [e] at e2; simp at e2; intro _; omega
    · rw [e] at e2; simp at e2; intro hn; rw [hn] at e2; simp at e2
  · intro a ha
    have hb := h.typed a.block
    rcases h.2 with ⟨e2, _⟩ | ⟨g, cap, cur, e2, _⟩
    · rw [e] at e2; simp at e2; rw [ha] at e2; simp at e2
    · have e3 := e2
      rw [e] at e3
      simp at e3
      rw [ha] at e3
      simp at e3
      obtain ⟨⟨rfl⟩, _⟩ := e3
      have := hb (by rw [e2]; rfl)
      exact ⟨this.1, this.2.1⟩
end Go.Proofs.Ytejmklfhcealnaa.F
