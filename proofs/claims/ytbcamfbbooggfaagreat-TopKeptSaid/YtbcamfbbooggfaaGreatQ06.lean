/- Part 6 of the proof: TCl, TDh, TDg, TRl, TAp, TDg2. -/
import Derived.Test.YtbcamfbbooggfaaGreatQ03
import Derived.Laws.Tables
import Derived.Lib.SliceRun
import Derived.Test.YtbcamfbbooggfaaGreatQ05
import Derived.Deep.RegionHeld3
import Derived.Deep.DrawnRows
import Derived.OrdersHeld
import Derived.RegionTactic
import Derived.WalkKit
import Derived.Lib.Hide

section
/- A row of bytes cloned. -/
set_option linter.unusedVariables false
set_option linter.unusedSimpArgs false
namespace Go.Proofs.YtbcamfbbooggfaaGreat.F
open Go.RowKit Go.Proofs.YtbcamfbbooggfaaGreatW.PrintWords

theorem Clone_c (A : Option Addr) (c : Nat) (xs : List Nat) (W : World) (hr : RN .u8 W A xs) (hc : xs.length ≤ c) (hl : xs.length ≤ 140737488355328) (hA : A = none → c = 0) :
    Calls Tryz.prog 44 #[.slice A xs.length c] W fun e w' => ∃ v, e = .returned v ∧ OwnN .u8 5 w' W.heap.size v xs ∧ Below W.heap.size W w' := by
  have hm := hr.max
  have HR := Lib.hid hr
  have qS : ∀ (w : World) (a : Option Addr) (n c : Nat), Sem.run Tryz.prog (binOp BinOp.eql 25 (.slice a n c) (.slice none 0 0)) w = Result.ok (.bool a.isNone) w := fun w a n c => Go.Lib.run_eql_slice_nil w 25 5 a n c 0 0 Tryz.underlying25
  cases A with
  | none =>
    have h0 : xs = [] := by
      cases xs with
      | nil => rfl
      | cons x xs => obtain ⟨ad, h, _⟩ := hr.at 0 (by simp); cases h
    subst h0
    obtain rfl := hA rfl
    go_enter Tryz.func44, Tryz.ntmps44
    go_wp2_with fail
    go_ret
    exact ⟨_, rfl, own_nil _ _ _ _, Below.refl _ _⟩
  | some ad =>
    have hO : OwnN .u8 5 (W.alloc (.cells #[] 5)) W.heap.size (.slice (some ⟨W.heap.size, 0, none⟩) 0 0) [] := by
      have := own_lit_of (enc := encN .u8) W W.heap.size 5 [] (by simp) (by simp)
      simp only [List.map_nil, List.length_nil, encs] at this
      exact this
    have HO := Lib.hid hO
    have hB : Below W.heap.size W (W.alloc (.cells #[] 5)) := (Below.refl _ _).alloc (Nat.le_refl _) _
    have HR2 := Lib.hid (hr.below hB)
    clear hO
    go_enter Tryz.func44, Tryz.ntmps44
    go_wp2_with (at_builtin; refine append_NN W.heap.size rfl (.tmp 5) (.tmp 6) 25 5 .u8 1 rfl Tryz.underlying25 info_u8 (by decide) (.slice (some ⟨W.heap.size, 0, none⟩) 0 0) [] xs (some ad) c rfl rfl HO.out HR2.out (by simp) (by simpa using hl) ?_; intro v1 w1 ho1 hg1 hat1)
    go_ret
    refine ⟨_, rfl, ho1, ?_⟩
    have hs := hg1.size
    exact ⟨hg1.os, hg1.tape, hg1.output, Nat.le_trans hB.size hs, fun k hk => (hg1.block k (Nat.lt_of_lt_of_le hk hB.size) (by simp [Value.ownBlock]; omega)).trans (hB.block k hk)⟩
end Go.Proofs.YtbcamfbbooggfaaGreat.F
end

section
/- A sum that goes on: made, asked, forked. -/
set_option linter.unusedVariables false
set_option linter.unusedSimpArgs false
set_option maxRecDepth 20000
namespace Go.Proofs.YtbcamfbbooggfaaGreat.F
open Go.RowKit Go.Proofs.YtbcamfbbooggfaaGreatW.PrintWords

def hbA (s : St) (v : Value) (n : Nat) : Array Value := #[.int .u32 s.a, .int .u32 s.b, .int .u32 s.c, .int .u32 s.d, .int .u32 s.e, .int .u32 s.f, .int .u32 s.g, .int .u32 s.h, v, .int .i64 n]
/-- A hash's block. -/
def HB (W : World) (B : Nat) (s : St) (v : Value) (n : Nat) : Prop := W.heap[B]? = some (.cells (hbA s v n) 181 (0, 0))
theorem begin_c (w : World) : Calls Tryz.prog 77 #[] w fun e w' => e = .returned (.agg beginS.val) ∧ Below w.heap.size w w' := by
  have hz := zero8
  have i8 : (Tryz.prog.info? 178).map (·.size) = some beginS.val.size := info8
  have HI := Lib.hid i8
  have hn := heap_alloc_new w (.cells zeros8 178)
  have HN := Lib.hid hn
  clear i8 hn
  go_enter Tryz.func77, Tryz.ntmps77
  repeat (first | (refine wpList_build rfl _ _ rfl (.agg beginS.val) (by kernel_rfl) ?_) | (refine wpList_store_row rfl 178 (.tmp 0) (.tmp 1) rfl w.heap.size rfl beginS.val zeros8 rfl 178 HN.out HI.out rfl (St.val_one _) ?_) | go_step)
  exact bodyPost_ret (v := .agg beginS.val) (results_cell_row rfl _ _ w.heap.size 178 beginS.val (0, 0) _ rfl (setRow_heap _ _ _ _ _ _ HN.out) Tryz.underlying178 rfl HI.out) rfl ⟨rfl, below_setRow ((Below.refl _ _).alloc (Nat.le_refl _) _) (Nat.le_refl _) _⟩
theorem NewH_c (w : World) : Calls Tryz.prog 37 #[] w fun e w' => ∃ B, e = .returned (.pointer (some ⟨B, 0, none⟩)) ∧ w.heap.size ≤ B ∧ B < w'.heap.size ∧ HB w' B beginS (.slice none 0 0) 0 ∧ Below w.heap.size w w' := by
  go_enter Tryz.func37, Tryz.ntmps37
  go_wp2_with fail
  refine (begin_c _).mono ?_
  rintro e w1 ⟨rfl, hb1⟩
  have HB1 := Lib.hid hb1
  clear hb1
  dsimp only
  repeat (first | (refine wpList_build rfl _ _ rfl (.agg (hbA beginS (.slice none 0 0) 0)) (by kernel_rfl) ?_) | go_step)
  go_ret
  exact ⟨w1.heap.size, rfl, HB1.out.size, by simp, heap_alloc_new _ _, HB1.out.alloc HB1.out.size _⟩
end Go.Proofs.YtbcamfbbooggfaaGreat.F
end

section
/- Bytes written to a sum that goes on. -/
set_option linter.unusedVariables false
set_option linter.unusedSimpArgs false
set_option maxRecDepth 20000
namespace Go.Proofs.YtbcamfbbooggfaaGreat.F
open Go.RowKit Go.Proofs.YtbcamfbbooggfaaGreatW.PrintWords

/-- All blocks below N but B are as they were. -/
structure ButB (B N : Nat) (w w' : World) : Prop where
  os : w'.os = w.os
  tape : w'.tape = w.tape
  output : w'.output = w.output
  size : w.heap.size ≤ w'.heap.size
  block : ∀ k, k < N → k ≠ B → w'.heap[k]? = w.heap[k]?
theorem ButB.refl (B N : Nat) (w : World) : ButB B N w w := ⟨rfl, rfl, rfl, Nat.le_refl _, fun _ _ _ => rfl⟩
theorem ButB.trans {B N : Nat} {a b c : World} (h : ButB B N a b) (h' : ButB B N b c) : ButB B N a c :=
  ⟨h'.os.trans h.os, h'.tape.trans h.tape, h'.output.trans h.output, Nat.le_trans h.size h'.size, fun k hk hb => (h'.block k hk hb).trans (h.block k hk hb)⟩
theorem ButB.of {B N : Nat} {a b : World} (h : Below N a b) : ButB B N a b := ⟨h.os, h.tape, h.output, h.size, fun k hk _ => h.block k hk⟩
theorem ButB.below {B N : Nat} {a b : World} (h : ButB B N a b) (hB : N ≤ B) : Below N a b := ⟨h.os, h.tape, h.output, h.size, fun k hk => h.block k hk (by omega)⟩
theorem ButB.mono {B N M : Nat} {a b : World} (h : ButB B N a b) (hm : M ≤ N) : ButB B M a b := ⟨h.os, h.tape, h.output, h.size, fun k hk => h.block k (by omega)⟩
theorem ButB.setCell {B N : Nat} {a b : World} (h : ButB B N a b) (o : Nat) (v : Value) : ButB B N a (b.setCell ⟨B, o, none⟩ v) :=
  ⟨h.os, h.tape, h.output, by simpa using h.size, fun k hk hb => (heap_setCell_other _ _ _ _ hb).trans (h.block k hk hb)⟩
theorem HB.cells {W : World} {B : Nat} {s : St} {v : Value} {n : Nat} (h : HB W B s v n) :
    W.cell? ⟨B, 0, none⟩ = some (.int .u32 s.a) ∧ W.cell? ⟨B, 1, none⟩ = some (.int .u32 s.b) ∧ W.cell? ⟨B, 2, none⟩ = some (.int .u32 s.c) ∧ W.cell? ⟨B, 3, none⟩ = some (.int .u32 s.d) ∧
    W.cell? ⟨B, 4, none⟩ = some (.int .u32 s.e) ∧ W.cell? ⟨B, 5, none⟩ = some (.int .u32 s.f) ∧ W.cell? ⟨B, 6, none⟩ = some (.int .u32 s.g) ∧ W.cell? ⟨B, 7, none⟩ = some (.int .u32 s.h) ∧
    W.cell? ⟨B, 8, none⟩ = some v ∧ W.cell? ⟨B, 9, none⟩ = some (.int .i64 n) := by
  refine ⟨?_, ?_, ?_, ?_, ?_, ?_, ?_, ?_, ?_, ?_⟩ <;> (rw [cell_of_row _ _ _ _ _ _ h]; rfl)
theorem HB.free {W : World} {B : Nat} {s : St} {v : Value} {n : Nat} (h : HB W B s v n) (o : Nat) : W.frozen? ⟨B, o, none⟩ = false := frozen_of_row _ _ _ _ _ h
theorem HB.lt {W : World} {B : Nat} {s : St} {v : Value} {n : Nat} (h : HB W B s v n) : B < W.heap.size := (Array.getElem?_eq_some_iff.1 h).1
theorem HB.move {W W' : World} {B : Nat} {s : St} {v : Value} {n : Nat} (h : HB W B s v n) (hm : W'.heap[B]? = W.heap[B]?) : HB W' B s v n := hm.trans h
theorem HB.below {W W' : World} {B : Nat} {s : St} {v : Value} {n : Nat} (h : HB W B s v n) (hb : Below W.heap.size W W') : HB W' B s v n := h.move (hb.block B h.lt)
theorem HB.size {W : World} {B : Nat} {s : St} {v : Value} {n : Nat} (h : HB W B s v n) (m : Nat) : HB (W.setCell ⟨B, 9, none⟩ (.int .i64 m)) B s v m := by
  unfold HB; rw [heap_setCell_same _ _ _ _ _ _ h]; rfl
theorem HB.rest {W : World} {B : Nat} {s : St} {v : Value} {n : Nat} (h : HB W B s v n) (v' : Value) : HB (W.setCell ⟨B, 8, none⟩ v') B s v' n := by
  unfold HB; rw [heap_setCell_same _ _ _ _ _ _ h]; rfl
/-- The state stored anew. -/
def put8 (W : World) (B : Nat) (t : St) : World :=
  (((((((W.setCell ⟨B, 0, none⟩ (.int .u32 t.a)).setCell ⟨B, 1, none⟩ (.int .u32 t.b)).setCell ⟨B, 2, none⟩ (.int .u32 t.c)).setCell ⟨B, 3, none⟩ (.int .u32 t.d)).setCell ⟨B, 4, none⟩ (.int .u32 t.e)).setCell ⟨B, 5, none⟩ (.int .u32 t.f)).setCell ⟨B, 6, none⟩ (.int .u32 t.g)).setCell ⟨B, 7, none⟩ (.int .u32 t.h)
theorem sets8 (s t : St) (v : Value) (n : Nat) : ((((((((hbA s v n).setIfInBounds 0 (.int .u32 t.a)).setIfInBounds 1 (.int .u32 t.b)).setIfInBounds 2 (.int .u32 t.c)).setIfInBounds 3 (.int .u32 t.d)).setIfInBounds 4 (.int .u32 t.e)).setIfInBounds 5 (.int .u32 t.f)).setIfInBounds 6 (.int .u32 t.g)).setIfInBounds 7 (.int .u32 t.h) = hbA t v n := by
  simp [hbA]
theorem HB.put8 {W : World} {B : Nat} {s : St} {v : Value} {n : Nat} (h : HB W B s v n) (t : St) : HB (put8 W B t) B t v n := by
  have h0 := heap_setCell_same W B 0 _ _ (.int .u32 t.a) h
  have h1 := heap_setCell_same _ B 1 _ _ (.int .u32 t.b) h0
  have h2 := heap_setCell_same _ B 2 _ _ (.int .u32 t.c) h1
  have h3 := heap_setCell_same _ B 3 _ _ (.int .u32 t.d) h2
  have h4 := heap_setCell_same _ B 4 _ _ (.int .u32 t.e) h3
  have h5 := heap_setCell_same _ B 5 _ _ (.int .u32 t.f) h4
  have h6 := heap_setCell_same _ B 6 _ _ (.int .u32 t.g) h5
  have h7 := heap_setCell_same _ B 7 _ _ (.int .u32 t.h) h6
  exact h7.trans (by rw [sets8])
theorem ButB.put8 {B N : Nat} {a b : World} (h : ButB B N a b) (t : St) : ButB B N a (put8 b B t) :=
  (((((((h.setCell 0 _).setCell 1 _).setCell 2 _).setCell 3 _).setCell 4 _).setCell 5 _).setCell 6 _).setCell 7 _
theorem hbA_u8 {s : St} {v : Value} {n i : Nat} {x : Int} (h : (hbA s v n)[i]? = some (.int .u8 x)) : v = .int .u8 x := by
  unfold hbA at h
  rcases i with _ | _ | _ | _ | _ | _ | _ | _ | _ | _ | i <;> simp at h
  exact h
/-- Bytes that are read lie in another block than the hash. -/
theorem RN.apart {W W' : World} {B : Nat} {s : St} {C : Option Addr} {m c : Nat} {n : Nat} {A : Option Addr} {xs : List Nat} (hr : RN .u8 W A xs) (h : HB W B s (.slice C m c) n) (hm : ∀ k, k < W.heap.size → k ≠ B → W'.heap[k]? = W.heap[k]?) : RN .u8 W' A xs := by
  have hr' := Kd.reads_of_C (enc := encN .u8) (d := 0) (h1 := fun _ => rfl) hr
  refine Kd.C_of_reads (d := 0) ⟨hr'.1, hr'.2.1, fun hp => ?_⟩
  obtain ⟨ad, e, hc⟩ := hr'.2.2 hp
  refine ⟨ad, e, fun j hj => ?_⟩
  have hcj := hc j hj
  have hlt : (ad.add j).block < W.heap.size := World.block_lt_of_cell? _ _ hcj
  have hne : ad.block ≠ B := by
    intro e
    unfold World.cell? at hcj
    rw [add_blk, e, h] at hcj
    dsimp only at hcj
    split at hcj
    · cases hcj
    · have := hbA_u8 hcj
      cases this
  rw [add_blk] at hlt
  have hq : W'.cell? (ad.add j) = W.cell? (ad.add j) := cell_move (by rw [add_blk]; exact hm _ hlt hne)
  exact hq.trans hcj
theorem below_grown {k : IntKind} {e : TypeId} {B : Nat} {W W' : World} {v : Value} {xs : List Nat} (ho : OwnN k e W B v xs) (hb : B ≤ W.heap.size) (hg : W.grownBy W' v.ownBlock) : Below B W W' :=
  ⟨hg.os, hg.tape, hg.output, hg.size, fun j hj => hg.block j (by omega) (fun hh => by have := (ho.typed j hh.symm).1; omega)⟩
theorem OwnN.form {k : IntKind} {e : TypeId} {W : World} {base : Nat} {v : Value} {xs : List Nat} (h : OwnN k e W base v xs) :
    ∃ A c, v = .slice A xs.length c ∧ xs.length ≤ c ∧ (A = none → c = 0) ∧ (∀ a, A = some a → base ≤ a.block ∧ a.block < W.heap.size) ∧ RN k W A xs := by
  obtain ⟨A, c, e, hc, hr⟩ := h.reads
  refine ⟨A, c, e, hc, ?_, ?_, hr⟩
  · rcases h.2 with ⟨e2, _⟩ | ⟨g, cap, cur, e2, _⟩
    · rw [e] at e2; simp at e2; intro _; omega
    · rw [e] at e2; simp at e2; intro hn; rw [hn] at e2; simp at e2
  · intro a ha
    have hb := h.typed a.block
    rcases h.2 with ⟨e2, _⟩ | ⟨g, cap, cur, e2, _⟩
    · rw [e] at e2; simp at e2; rw [ha] at e2; simp at e2
    · have e3 := e2
      rw [e] at e3
      simp at e3
      rw [ha] at e3
      simp at e3
      obtain ⟨⟨rfl⟩, _⟩ := e3
      have := hb (by rw [e2]; rfl)
      exact ⟨this.1, this.2.1⟩
end Go.Proofs.YtbcamfbbooggfaaGreat.F
end

section
/- A region that draws its order and stores, last, into a cell that it loads: what yields is taken first; the loads, as long as T holds of the world, which only what waits for all of them may end. -/
set_option linter.unusedVariables false
set_option linter.unusedSimpArgs false
namespace Go.Proofs.YtbcamfbbooggfaaGreat.F

section
variable {P : Program} {md : Region.Mode} {ops : Array Oper} {Q : Exit → Act → World → Prop} {L : List Nat} {T : World → Prop}
/-- Does j wait for k, at whatever remove? -/
def waits (md : Region.Mode) (ops : Array Oper) : Nat → Nat → Nat → Bool
  | 0, _, _ => false
  | n + 1, j, k => match ops[j]? with
    | none => false
    | some o => o.after.any fun e => Region.binds md e && (e.on == k || waits md ops n e.on k)
/-- What has been done, all that it waited for has. -/
def Closed (md : Region.Mode) (ops : Array Oper) (listed : Array Bool) : Prop :=
  ∀ j o, ops[j]? = some o → listed.getD j false = true → ∀ e ∈ o.after, Region.binds md e = true → listed.getD e.on false = true
def closedB (md : Region.Mode) (ops : Array Oper) (listed : Array Bool) : Bool :=
  (List.range ops.size).all fun j => match ops[j]? with
    | none => true
    | some o => !listed.getD j false || o.after.all fun e => !Region.binds md e || listed.getD e.on false
theorem closed_of {listed : Array Bool} (h : closedB md ops listed = true) : Closed md ops listed := fun j o ho hl e he hb => by
  have hj : j < ops.size := (Array.getElem?_eq_some_iff.1 ho).1
  have h1 := List.all_eq_true.1 h j (List.mem_range.2 hj)
  rw [ho] at h1
  simp only [hl, Bool.not_true, Bool.false_or] at h1
  have h2 := Array.all_eq_true_iff_forall_mem.1 h1 e he
  simpa [hb] using h2
theorem waits_done {listed : Array Bool} (hc : Closed md ops listed) : ∀ (n j k : Nat), (∀ o, ops[j]? = some o → ∀ e ∈ o.after, Region.binds md e = true → listed.getD e.on false = true) → waits md ops n j k = true → listed.getD k false = true
  | 0, j, k, _, h => by simp [waits] at h
  | n + 1, j, k, hj, h => by
    unfold waits at h
    split at h
    · cases h
    · rename_i o ho
      obtain ⟨e, he, hb⟩ := Array.any_eq_true'.1 h
      simp only [Bool.and_eq_true, Bool.or_eq_true, beq_iff_eq] at hb
      obtain ⟨hb1, hb2⟩ := hb
      have hon := hj o ho e he hb1
      rcases hb2 with rfl | hb2
      · exact hon
      · exact waits_done hc n e.on k (fun o2 ho2 e2 he2 hb => hc _ o2 ho2 hon e2 he2 hb) hb2
/-- What i does to T where it may come ahead of one of L. -/
def Keeps (md : Region.Mode) (ops : Array Oper) (L : List Nat) (T : World → Prop) (i : Nat) (w w' : World) : Prop := (∃ k ∈ L, waits md ops ops.size i k = false) → T w → T w'
def WL (P : Program) (md : Region.Mode) (ops : Array Oper) (Q : Exit → Act → World → Prop) (L : List Nat) (T : World → Prop) : Nat → Array Bool → Act → World → Prop
  | 0, listed, a, w => Region.ready md ops listed = [] ∧ Q .normal a w
  | n + 1, listed, a, w => (Region.ready md ops listed = [] → Q .normal a w) ∧
    ∀ i ∈ Region.ready md ops listed, wpOp P ops Q i (fun a' w' => Keeps md ops L T i w w' ∧ WL P md ops Q L T n (listed.setIfInBounds i true) a' w') a w
theorem WL.any : ∀ (n : Nat) (listed : Array Bool) (a : Act) (w : World), WL P md ops Q L T n listed a w → wpAny P md ops Q n listed a w
  | 0, _, _, _, h => h
  | n + 1, listed, a, w, h => ⟨h.1, fun i hi => wpOp_mono (fun a' w' h' => WL.any n _ a' w' h'.2) (h.2 i hi)⟩
theorem WL.first {i : Nat} {oi : Oper} {v : Value} (hi : ops[i]? = some oi) (hsel : ∀ (j : Nat) (o : Oper) cs b, ops[j]? = some o → o.op ≠ .select cs b)
    (hQ : ∀ c a w, Q (.panic c) (a.put oi.dst v) w → Q (.panic c) a w) :
    ∀ (n : Nat) (listed : Array Bool) (a : Act) (w : World), Closed md ops listed →
      (∀ j oj, ops[j]? = some oj → j ≠ i → listed.getD j true = false → (∀ e ∈ oj.after, Region.binds md e = true → e.on ≠ i) → oi.apart ops oj = true) →
      i ∈ Region.ready md ops listed → YieldsIf P ops (fun w => i ∈ L → T w) oi v a → (i ∈ L → T w) →
      WL P md ops Q L T n (listed.setIfInBounds i true) (a.put oi.dst v) w → WL P md ops Q L T (n + 1) listed a w := by
  intro n
  induction n with
  | zero =>
    intro listed a w _ _ hr hy hS H
    refine ⟨fun h => (by rw [h] at hr; cases hr), fun j hj => ?_⟩
    by_cases hji : j = i
    · subst hji
      exact hy.wpOp hi hS ⟨fun _ h => h, H⟩
    · have := ready_mono hj hji
      rw [H.1] at this
      cases this
  | succ n ih =>
    intro listed a w hcl hfree hr hy hS H
    have hun := (mem_ready.1 hr).1
    refine ⟨fun h => (by rw [h] at hr; cases hr), fun j hj => ?_⟩
    by_cases hji : j = i
    · subst hji
      exact hy.wpOp hi hS ⟨fun _ h => h, H⟩
    · have h1 := H.2 j (ready_mono hj hji)
      obtain ⟨hjun, oj, hoj, hall⟩ := mem_ready.1 hj
      have hfl : listed.getD i false = false := by
        rcases Nat.lt_or_ge i listed.size with h' | h'
        · simp [h'] at hun ⊢; exact hun
        · simp [Array.getElem?_eq_none h']
      have hnot : ∀ e ∈ oj.after, Region.binds md e = true → e.on ≠ i := fun e he hb heq => by
        have g1 := hall e he hb
        rw [heq, hfl] at g1
        cases g1
      have hw : waits md ops ops.size j i = false := by
        cases hw : waits md ops ops.size j i with
        | false => rfl
        | true =>
          have := waits_done hcl ops.size j i (fun o ho e he hb => by rw [hoj] at ho; cases ho; exact hall e he hb) hw
          rw [hfl] at this
          cases this
      have hcl' : Closed md ops (listed.setIfInBounds j true) := fun k o ho hk e he hb => by
        by_cases hkj : j = k
        · subst hkj
          rw [hoj] at ho
          cases ho
          exact getD_set_true (hall e he hb)
        · rw [getD_set_ne false hkj] at hk
          exact getD_set_true (hcl k o ho hk e he hb)
      have hfree' : ∀ k ok, ops[k]? = some ok → k ≠ i → (listed.setIfInBounds j true).getD k true = false → (∀ e ∈ ok.after, Region.binds md e = true → e.on ≠ i) → oi.apart ops ok = true := fun k ok hk hki hkun hno => by
        refine hfree k ok hk hki ?_ hno
        by_cases hjk : j = k
        · subst hjk; exact hjun
        · rw [getD_set_ne true hjk] at hkun; exact hkun
      have h2 := wpOp_putIf hoj (hfree j oj hoj hji hjun hnot) (fun cs b => hsel i oi cs b hi) (fun cs b => hsel j oj cs b hoj) hQ hy h1
      refine wpOp_mono (fun a' w' h3 => ?_) h2
      obtain ⟨hy', hk, H'⟩ := h3
      refine ⟨hk, ih (listed.setIfInBounds j true) a' w' hcl' hfree' (ready_mono hr (Ne.symm hji)) hy' (fun hL => hk ⟨i, hL, hw⟩ (hS hL)) ?_⟩
      rw [Array.setIfInBounds_comm _ _ hji]
      exact H'
/-- Number i is taken first. -/
theorem WL.take {i : Nat} {oi : Oper} {v : Value} {n : Nat} {listed : Array Bool} {a : Act} {w : World} (hi : ops[i]? = some oi)
    (hs : Region.noSelect ops = true) (hf : Region.free md ops listed i = true) (hr : (Region.ready md ops listed).contains i = true) (hc : closedB md ops listed = true)
    (hQ : ∀ c a w, Q (.panic c) (a.put oi.dst v) w → Q (.panic c) a w) (hy : YieldsIf P ops (fun w => i ∈ L → T w) oi v a) (hS : T w)
    (h : WL P md ops Q L T n (listed.setIfInBounds i true) (a.put oi.dst v) w) : WL P md ops Q L T (n + 1) listed a w :=
  WL.first hi (Region.noSelect_spec hs) hQ n listed a w (closed_of hc) (Region.free_spec hi hf) (by simpa using hr) hy (fun _ => hS) h
/-- What comes up alone, and waits for all of L. -/
theorem WL.late {i : Nat} {o : Oper} {n : Nat} {listed : Array Bool} {a : Act} {w : World} (hr : Region.ready md ops listed = [i]) (ho : ops[i]? = some o) (hall : (L.all fun k => waits md ops ops.size i k) = true)
    (h : ∀ K : Act → World → Prop, Go.RowKit.Hid (∀ a w, WL P md ops Q L T n (listed.setIfInBounds i true) a w → K a w) → if Region.wanted o (yielded ops a.tmps) = true then Oper.wp P o a w K Q else K (a.put o.dst undef) w) : WL P md ops Q L T (n + 1) listed a w := by
  refine ⟨fun h0 => (by rw [hr] at h0; cases h0), fun j hj => ?_⟩
  rw [hr] at hj
  have hj : j = i := by simpa using hj
  subst hj
  exact wpOp_step ho (fun K' hK => h K' (Go.Lib.hid (fun a w hW => hK a w ⟨fun ⟨k, hk, hf⟩ => (by have := List.all_eq_true.1 hall k hk; rw [hf] at this; cases this), hW⟩)))
/-- What comes up alone. -/
theorem WL.one {i : Nat} {o : Oper} {n : Nat} {listed : Array Bool} {a : Act} {w : World} (hr : Region.ready md ops listed = [i]) (ho : ops[i]? = some o)
    (h : ∀ K : Act → World → Prop, Go.RowKit.Hid (∀ a w', (T w → T w') → WL P md ops Q L T n (listed.setIfInBounds i true) a w' → K a w') → if Region.wanted o (yielded ops a.tmps) = true then Oper.wp P o a w K Q else K (a.put o.dst undef) w) : WL P md ops Q L T (n + 1) listed a w := by
  refine ⟨fun h0 => (by rw [hr] at h0; cases h0), fun j hj => ?_⟩
  rw [hr] at hj
  have hj : j = i := by simpa using hj
  subst hj
  exact wpOp_step ho (fun K' hK => h K' (Go.Lib.hid (fun a w' hT hW => hK a w' ⟨fun _ => hT, hW⟩)))
/-- One of two comes up. -/
theorem WL.two {i j : Nat} {o o2 : Oper} {n : Nat} {listed : Array Bool} {a : Act} {w : World} (hr : Region.ready md ops listed = [i, j]) (ho : ops[i]? = some o) (ho2 : ops[j]? = some o2)
    (h : ∀ K : Act → World → Prop, Go.RowKit.Hid (∀ a w', (T w → T w') → WL P md ops Q L T n (listed.setIfInBounds i true) a w' → K a w') → if Region.wanted o (yielded ops a.tmps) = true then Oper.wp P o a w K Q else K (a.put o.dst undef) w)
    (h2 : ∀ K : Act → World → Prop, Go.RowKit.Hid (∀ a w', (T w → T w') → WL P md ops Q L T n (listed.setIfInBounds j true) a w' → K a w') → if Region.wanted o2 (yielded ops a.tmps) = true then Oper.wp P o2 a w K Q else K (a.put o2.dst undef) w) : WL P md ops Q L T (n + 1) listed a w := by
  refine ⟨fun h0 => (by rw [hr] at h0; cases h0), fun k hk => ?_⟩
  rw [hr] at hk
  have hk : k = i ∨ k = j := by simpa using hk
  rcases hk with rfl | rfl
  · exact wpOp_step ho (fun K' hK => h K' (Go.Lib.hid (fun a w' hT hW => hK a w' ⟨fun _ => hT, hW⟩)))
  · exact wpOp_step ho2 (fun K' hK => h2 K' (Go.Lib.hid (fun a w' hT hW => hK a w' ⟨fun _ => hT, hW⟩)))
theorem WL.done {listed : Array Bool} {a : Act} {w : World} (hr : Region.ready md ops listed = []) (h : Q .normal a w) : ∀ n, WL P md ops Q L T n listed a w
  | 0 => ⟨hr, h⟩
  | _ + 1 => ⟨fun _ => h, by rw [hr]; simp⟩
theorem wp_region_late {id : Nat} {a : Act} {w : World} (L : List Nat) (T : World → Prop) (hm : P.follows .mixedOrders = true) (hS : T w.drew)
    (h : T w.drew → WL P .any ops Q L T ops.size (Array.replicate ops.size false) a w.drew) : (Code.region id ops true).wp P Q a w :=
  wp_region_any hm (WL.any _ _ _ _ (h hS))
end
end Go.Proofs.YtbcamfbbooggfaaGreat.F
end

section
/- An append of a row, under a guard too. -/
set_option linter.unusedVariables false
set_option linter.unusedSimpArgs false
namespace Go.Proofs.YtbcamfbbooggfaaGreat.F
open Go.RowKit Go.Proofs.YtbcamfbbooggfaaGreatW.PrintWords

section
variable {P : Program} {o : Oper} {a : Act} {K : Act → World → Prop} {Q : Exit → Act → World → Prop}
theorem wp_append_NN {W : World} (base : Nat) (s x : Operand) (t e : TypeId) (k : IntKind) (bytes : Nat)
    (ho : o.op = .call { callee := .builtin .append, args := #[s, x], argTypes := #[t, t] })
    (ht : P.underlying t = some (.slice e)) (hinfo : (P.info? e).map (fun i => (i.zero, i.size, i.bytes)) = some (some (.int k 0), 1, bytes)) (hb0 : 0 < bytes)
    (v : Value) (xs ys : List Nat) (A : Option Addr) (c : Nat) (hs : a.eval s = v) (hx : a.eval x = .slice A ys.length c)
    (HO : OwnN k e W base v xs) (HR : RN k W A ys) (hbase : base ≤ W.heap.size) (hl : (xs.length + ys.length) * bytes ≤ 140737488355328)
    (h : ∀ v1 w1, OwnN k e w1 base v1 (xs ++ ys) → W.grownBy w1 v.ownBlock → (v1.ownBlock = v.ownBlock ∨ ∃ b, v1.ownBlock = some b ∧ W.heap.size ≤ b) → K (a.put o.dst v1) w1) :
    Oper.wp P o a W K Q := by
  obtain ⟨i0, hi, hzz⟩ := Option.map_eq_some_iff.1 hinfo
  simp only [Prod.mk.injEq] at hzz
  obtain ⟨hz0, hz1, hz2⟩ := hzz
  have hlen : xs.length + ys.length ≤ 140737488355328 := Nat.le_trans (Nat.le_mul_of_pos_right _ hb0) hl
  have HO' : W.ownsRow base e 1 v xs.length (xs.map (encN k)) := HO
  have hrun : ∃ v1 w1, (Builtin.append_ #[t, t] o.type #[v, .slice A ys.length c]).run P W = .ok v1 w1 ∧ OwnN k e w1 base v1 (xs ++ ys) ∧ W.grownBy w1 v.ownBlock ∧ (v1.ownBlock = v.ownBlock ∨ v1.ownBlock = some W.heap.size) := by
    cases A with
    | none =>
      have h0 : ys = [] := by
        cases ys with
        | nil => rfl
        | cons y ys => obtain ⟨ad, h, _⟩ := HR.at 0 (by simp); cases h
      subst h0
      refine ⟨v, W, ?_, by simpa using HO, World.grownBy.refl W _, .inl rfl⟩
      rcases HO'.2 with ⟨rfl, hn⟩ | ⟨g, cap, cur, rfl, _, _, hnc, _⟩
      · simp [Builtin.append_, run_underlying ht, sizeOf, typeInfo, hi, Builtin.lenOf, Builtin.firstCells]
      · simp [Builtin.append_, run_underlying ht, sizeOf, typeInfo, hi, Builtin.lenOf, Builtin.firstCells, hnc, storeCells]
    | some ad =>
      have hcells : ∀ j u, (ys.map (encN k))[j]? = some u → W.cell? (ad.add j) = some u := by
        intro j u hu
        have hj : j < ys.length := by
          rcases Nat.lt_or_ge j ys.length with h | h
          · exact h
          · simp [List.getElem?_eq_none h] at hu
        obtain ⟨ad', h', hc⟩ := HR.at j hj
        injection h' with h'
        subst h'
        simp [hj] at hu
        rw [← hu]
        exact hc
      obtain ⟨v1, w1, hr, h2, h3, _, h5⟩ := run_append_own_at (P := P) W base t o.type e i0 (.int k 0) 1 bytes ht hi hz0 hz1 hz2 rfl (by omega) v xs.length (xs.map (encN k)) HO' ad ys.length c (ys.map (encN k)) (by simp) hcells
        (by intro u hu; simp only [List.mem_map] at hu; obtain ⟨q, _, rfl⟩ := hu; rfl) (by simp only [maxLen]; omega) hl hbase
      exact ⟨v1, w1, hr, by simpa [OwnN] using h2, h3, h5⟩
  obtain ⟨v1, w1, hr, hown, hg, hat⟩ := hrun
  unfold Oper.wp execOp
  simp only [ho, resolve, invoke, builtin, Sem.run_bind, Sem.run_pure, Result.andThen_ok, List.map_toArray, List.map_cons, List.map_nil, hs, hx, hr]
  exact h v1 w1 hown hg (by
    rcases hat with hat | hat
    · exact .inl hat
    · exact .inr ⟨_, hat, Nat.le_refl _⟩)
end
end Go.Proofs.YtbcamfbbooggfaaGreat.F
end

section
/- Bytes written to a sum that goes on, walked. -/
set_option linter.unusedVariables false
set_option linter.unusedSimpArgs false
set_option maxRecDepth 20000
namespace Go.Proofs.YtbcamfbbooggfaaGreat.F
open Go.RowKit Go.Proofs.YtbcamfbbooggfaaGreatW.PrintWords
attribute [local go_sem ↓] Go.wp_at_zero Go.wp_at_succ

/-- 'b[m:]' of a row that is there. -/
theorem cut_at (m n c : Nat) (ad : Addr) (hm : m ≤ n) (hc : n ≤ c) :
    ∃ ad' : Addr, (∀ W : World, (Instr.slice 25 (.slice (some ad) n c) (some (.int .i64 (m : Int))) none none).run Tryz.prog W = .ok (.slice (some ad') (n - m) (c - m)) W) ∧ ad'.block = ad.block ∧
      ∀ (w : World) (xs : List Nat), xs.length = n → RN .u8 w (some ad) xs → RN .u8 w (some ad') (xs.drop m) := by
  obtain ⟨i, hi, hsz⟩ := info_u8'
  obtain ⟨A', h1, h2, h3⟩ := RN.cut (P := Tryz.prog) 25 5 .u8 Tryz.underlying25 hi hsz (some ad) n c m hm
  cases A' with
  | none =>
    exfalso
    have hu : Tryz.prog.underlying 25 = some (.slice (Tryz.prog.elem 25)) := by rw [show Tryz.prog.elem 25 = 5 by simp [Program.elem, Tryz.underlying25]]; exact Tryz.underlying25
    have h := h1 default
    rw [run_slice_l default 25 (some ad) n c hu .i64 (m : Int) (Int.natCast_nonneg _) (by omega)] at h
    have hel : Tryz.prog.elem 25 = 5 := by simp [Program.elem, Tryz.underlying25]
    rw [hel] at h
    by_cases hcm : c = m
    · simp [sizeOf, typeInfo, hi, hsz, sliced, Result.andThen, hcm] at h
    · simp [sizeOf, typeInfo, hi, hsz, sliced, Result.andThen, hcm] at h
  | some ad' =>
    obtain ⟨b, e, hb⟩ := h2 ad' rfl
    injection e with e
    subst e
    exact ⟨ad', h1, hb, fun w xs hx hr => h3 w xs hx (by omega) hr⟩

theorem drop_next (ys : List Nat) (j : Nat) : (ys.drop (64 * j)).drop 64 = ys.drop (64 * (j + 1)) := by rw [List.drop_drop, show 64 * j + 64 = 64 * (j + 1) by omega]
theorem below_drew' {W W' : World} {B : Nat} (h : Below B W.drew W') : Below B W W' := ⟨h.os, h.tape, h.output, h.size, h.block⟩
def lenV : Value → Nat
  | .slice _ k _ => k
  | _ => 0
set_option maxHeartbeats 4000000 in
theorem Write_c (B : Nat) (s : St) (C : Option Addr) (c : Nat) (xs : List Nat) (n : Nat) (A : Option Addr) (d : Nat) (ps : List Nat) (W : World) (hs : s.ok) (h : HB W B s (.slice C xs.length c) n) (hC : RN .u8 W C xs) (hcc : xs.length ≤ c) (hCn : C = none → c = 0) (hx : ∀ x ∈ xs, x < 256)
    (hp : RN .u8 W A ps) (hpb : ∀ x ∈ ps, x < 256) (hn : n + ps.length ≤ 4611686018427387904) (hl : xs.length + ps.length ≤ 140737488355328) :
    Calls Tryz.prog 38 #[.pointer (some ⟨B, 0, none⟩), .slice A ps.length d] W fun e W' => e = .returned (.int .i64 0) ∧ ∃ C' c',
      HB W' B (mixes s (xs ++ ps) ((xs ++ ps).length / 64)) (.slice C' ((xs ++ ps).drop (64 * ((xs ++ ps).length / 64))).length c') (n + ps.length) ∧ RN .u8 W' C' ((xs ++ ps).drop (64 * ((xs ++ ps).length / 64))) ∧
      ((xs ++ ps).drop (64 * ((xs ++ ps).length / 64))).length ≤ c' ∧ (C' = none → c' = 0) ∧ (∀ a, C' = some a → W.heap.size ≤ a.block) ∧ ButB B W.heap.size W W' := by
  have hBl := h.lt
  have hyb : ∀ x ∈ xs ++ ps, x < 256 := by
    intro x hx'
    rcases List.mem_append.1 hx' with h1 | h1
    · exact hx x h1
    · exact hpb x h1
  obtain ⟨k0, k1, k2, k3, k4, k5, k6, k7, k8, k9⟩ := h.cells
  have f9 := h.free 9
  have hn1 : (n : Int) + ps.length ≤ 4611686018427387904 := by omega
  have h1 := h.size (n + ps.length)
  have hbb1 : ButB B W.heap.size W (W.setCell ⟨B, 9, none⟩ (.int .i64 (n + ps.length : Nat))) := (ButB.refl _ _ _).setCell 9 _
  obtain ⟨W1, hW1⟩ : ∃ W1, W.setCell ⟨B, 9, none⟩ (.int .i64 (n + ps.length : Nat)) = W1 := ⟨_, rfl⟩
  rw [hW1] at h1 hbb1
  have hs1 : W1.heap.size = W.heap.size := by rw [← hW1]; simp
  have hC1 := hC.apart h (W' := W1) (fun k hk hb => hbb1.block k hk hb)
  have hp1 := hp.apart h (W' := W1) (fun k hk hb => hbb1.block k hk hb)
  have q8 := h1.cells.2.2.2.2.2.2.2.2.1
  have hW1' : W.setCell ⟨B, 9, none⟩ (.int .i64 ((n : Int) + ps.length)) = W1 := by rw [← hW1]; norm_cast
  have HW1 := Lib.hid hW1'
  have H := Lib.hid h1
  have HBB := Lib.hid hbb1
  have HC := Lib.hid hC1
  have HP := Lib.hid hp1
  have HN := Lib.hid hn
  have HL := Lib.hid hl
  clear k0 k1 k2 k3 k4 k5 k6 k7 q8 hW1 hW1' h1 hbb1 hC1 hp1 h hC hp hx hpb hn hl
  go_enter Tryz.func38, Tryz.ntmps38
  go_wp2_with fail
  rw [HW1.out]
  refine (Clone_c C c xs _ HC.out hcc (by have := HL.out; omega) hCn).mono ?_
  rintro e w2 ⟨v2, rfl, ho2, hb2⟩
  have hs2 := hb2.size
  have HO2 := Lib.hid ho2
  have HB2 := Lib.hid hb2
  have HP2 := Lib.hid (HP.out.below hb2)
  have H2 := Lib.hid (H.out.below hb2)
  have hbb2 : ButB B W.heap.size W w2 := HBB.out.trans (ButB.of (hb2.mono (by omega)))
  have HBB2 := Lib.hid hbb2
  have hbase : W1.heap.size ≤ w2.heap.size := hs2
  have hlen : (xs.length + ps.length) * 1 ≤ 140737488355328 := by have := HL.out; omega
  have HLEN := Lib.hid hlen
  clear ho2 hb2 hbb2 k8 k9 f9 hlen
  go_wp2_with (at_builtin; refine append_NN W1.heap.size rfl (.tmp 21) (.tmp 22) 25 5 .u8 1 rfl Tryz.underlying25 info_u8 (by decide) v2 xs ps A d rfl rfl HO2.out HP2.out hbase HLEN.out ?_; intro v3 w3 ho3 hg3 hat3)
  have hb3 := below_grown HO2.out hbase hg3
  have hbb3 : ButB B W.heap.size W w3 := HBB2.out.trans (ButB.of (hb3.mono (by omega)))
  have h3 : HB w3 B s (.slice C xs.length c) (n + ps.length) := H2.out.move (hb3.block B (by omega))
  obtain ⟨A3, c3, rfl, hc3, hn3, hA3, hr3⟩ := ho3.form
  have hA3' : ∀ a, A3 = some a → W.heap.size ≤ a.block := fun a ha => by have := (hA3 a ha).1; omega
  obtain ⟨ys, hys⟩ : ∃ ys, xs ++ ps = ys := ⟨_, rfl⟩
  have hly : ys.length ≤ 140737488355328 := by rw [← hys, List.length_append]; exact HL.out
  have hnn : n + ps.length ≤ 4611686018427387904 := HN.out
  obtain ⟨m, hm⟩ : ∃ m, n + ps.length = m := ⟨_, rfl⟩
  rw [hys] at hc3 hr3 hyb ⊢
  rw [hm] at h3
  have HYS := Lib.hid hys
  have HH3 := Lib.hid h3
  have HBB3 := Lib.hid hbb3
  have HR3 := Lib.hid hr3
  have HA3 := Lib.hid hA3'
  have HN3 := Lib.hid hn3
  have HYB := Lib.hid hyb
  have HNM := Lib.hid hm
  clear ho3 hg3 hat3 hb3 hbb3 h3 hA3 hA3' hr3 hn3 hyb hys hs1 hs2 hbase hnn hm hCn hn1
  clear HW1 H HBB HC HP HN HL HO2 HB2 HP2 H2 HBB2 HLEN
  go_loopw [5] (fun vb Wr => ∃ (j : Nat) (A5 : Option Addr) (c5 : Nat), 64 * j ≤ ys.length ∧ vb = .slice A5 (ys.drop (64 * j)).length c5 ∧ RN .u8 Wr A5 (ys.drop (64 * j)) ∧ (ys.drop (64 * j)).length ≤ c5 ∧ (A5 = none → c5 = 0) ∧ (∀ a, A5 = some a → W.heap.size ≤ a.block) ∧ HB Wr B (mixes s ys j) (.slice C xs.length c) m ∧ ButB B W.heap.size W Wr) (fun vb _ => lenV vb)
  case atStart => exact ⟨0, A3, c3, by omega, by simp, by simpa using HR3.out, by simpa using hc3, HN3.out, HA3.out, HH3.out, HBB3.out⟩
  case round =>
    obtain ⟨j, A5, c5, hj, rfl, hr5, hc5, hn5, hA5, h5, hbb5⟩ := hrel
    have hl5 := hr5.max
    by_cases hge : 64 ≤ (ys.drop (64 * j)).length
    · have hd : decide ((64 : Int) ≤ (ys.drop (64 * j)).length) = true := decide_eq_true (by omega)
      obtain ⟨ad, e, hx5⟩ := hr5.at 0 (by omega)
      subst e
      clear hx5
      have hok := mixes_ok hs ys j
      have hnext : mixes s ys (j + 1) = mixS (mixes s ys j) ((ys.drop (64 * j)).take 64) := rfl
      have hdn := drop_next ys j
      obtain ⟨zs, hzs⟩ : ∃ zs, ys.drop (64 * j) = zs := ⟨_, rfl⟩
      obtain ⟨t, ht⟩ : ∃ t, mixes s ys j = t := ⟨_, rfl⟩
      have hzb : ∀ x ∈ zs.take 64, x < 256 := fun x hx => HYB.out x (by rw [← hzs] at hx; exact List.mem_of_mem_drop (List.mem_of_mem_take hx))
      have hzl : ys.length = 64 * j + zs.length := by rw [← hzs, List.length_drop]; omega
      rw [hzs] at hr5 hc5 hge hdn hl5 hnext hd ⊢
      rw [ht] at h5 hok hnext
      obtain ⟨ad', hcut, hblk, hcutr⟩ := cut_at 64 zs.length c5 ad hge hc5
      have h64 : (zs.take 64).length = 64 := by rw [List.length_take]; omega
      have hmx := fun (W' : World) (hW : RN .u8 W' (some ad) zs) => mixed_c t (some ad) c5 (zs.take 64) W' hok (hW.take 64 hge) hzb h64 (by omega)
      obtain ⟨t2, ht2⟩ : ∃ t2, mixS t (zs.take 64) = t2 := ⟨_, rfl⟩
      rw [ht2] at hmx hnext
      unfold St.val at hmx
      obtain ⟨q0, q1, q2, q3, q4, q5, q6, q7, q8, q9⟩ := h5.cells
      have i64 : (64 : Int) ≤ c5 := by omega
      have HMX := Lib.hid hmx
      have hcut2 : ∀ W : World, (Instr.slice 25 (.slice (some ad) zs.length c5) (some (.int .i64 64)) none none).run Tryz.prog W = .ok (.slice (some ad') (zs.length - 64) (c5 - 64)) W := hcut
      have HC := Lib.hid hcut2
      have HB5 := Lib.hid h5
      have HR5 := Lib.hid hr5
      clear hzs ht ht2 hmx hcut hcut2 h5 hr5 q8 q9 h64 hzb hok hn5
      have HNX := Lib.hid hnext
      have HDN := Lib.hid hdn
      have HCR := Lib.hid hcutr
      have HA5 := Lib.hid hA5
      have HBK := Lib.hid hblk
      have HZL := Lib.hid hzl
      clear hnext hdn hcutr hA5 hblk hzl
      have hBr : B < wr.heap.size := by have := hbb5.size; omega
      go_wp2_with fail
      go_region_with ((go_at_call 78; refine (HMX.out wr.drew (HR5.out.move (fun _ _ => rfl))).mono ?_; rintro e w6 ⟨rfl, hb6⟩; have h6 : HB w6 B t (.slice C xs.length c) m := HB5.out.move (hb6.block B hBr); obtain ⟨p0, p1, p2, p3, p4, p5, p6, p7, p8, p9⟩ := h6.cells; have z0 := h6.free 0; have z1 := h6.free 1; have z2 := h6.free 2; have z3 := h6.free 3; have z4 := h6.free 4; have z5 := h6.free 5; have z6 := h6.free 6; have z7 := h6.free 7))
      have h7 := h6.put8 t2
      have hb7 : ButB B W.heap.size W (put8 w6 B t2) := (hbb5.trans (ButB.of ((below_drew' hb6).mono hbb5.size))).put8 t2
      have hr7 : RN .u8 (put8 w6 B t2) (some ad') (zs.drop 64) := (HCR.out w6 zs rfl ((HR5.out.move (fun _ _ => rfl) : RN .u8 wr.drew (some ad) zs).below hb6)).apart h6 (fun k hk hb => (ButB.put8 (ButB.refl B (k + 1) w6) t2).block k (by omega) hb)
      obtain ⟨W7, hW7⟩ : ∃ W7, put8 w6 B t2 = W7 := ⟨_, rfl⟩
      rw [hW7] at h7 hb7 hr7
      change Exit.then _ _ _ _ (put8 w6 B t2)
      rw [hW7]
      have hld : (zs.drop 64).length = zs.length - 64 := List.length_drop
      have H7 := Lib.hid h7
      have HB7 := Lib.hid hb7
      have HR7 := Lib.hid hr7
      have HLD := Lib.hid hld
      clear hW7 h7 hb7 hr7 hld h6 hb6 p0 p1 p2 p3 p4 p5 p6 p7 p8 p9 z0 z1 z2 z3 z4 z5 z6 z7 q0 q1 q2 q3 q4 q5 q6 q7 hbb5
      have hcut := HC.out
      go_wp2_with fail
      refine ⟨⟨j + 1, some ad', c5 - 64, by have := HZL.out; omega, ?_, by rw [← HDN.out]; exact HR7.out, by rw [← HDN.out, HLD.out]; omega, fun h => (by cases h), fun a ha => ?_, by rw [HNX.out]; exact H7.out, HB7.out⟩, ?_⟩
      · rw [← HDN.out, HLD.out]
      · injection ha with ha
        subst ha
        rw [HBK.out]
        exact HA5.out ad rfl
      · simp only [lenV]; omega
    · have hjk : j = ys.length / 64 := by rw [List.length_drop] at hge; omega
      have hzs0 : ys.drop (64 * (ys.length / 64)) = ys.drop (64 * j) := by rw [← hjk]
      obtain ⟨zs, hzs⟩ : ∃ zs, ys.drop (64 * j) = zs := ⟨_, rfl⟩
      rw [hzs] at hr5 hc5 hge hl5 hzs0 ⊢
      have hd : decide ((64 : Int) ≤ zs.length) = false := decide_eq_false (by omega)
      have q8 := h5.cells.2.2.2.2.2.2.2.2.1
      have z8 := h5.free 8
      have h8 := h5.rest (.slice A5 zs.length c5)
      have hb8 := hbb5.setCell 8 (.slice A5 zs.length c5)
      have hr8 : RN .u8 (wr.setCell ⟨B, 8, none⟩ (.slice A5 zs.length c5)) A5 zs := hr5.apart h5 (fun k hk hb => heap_setCell_other _ _ _ _ hb)
      rw [hjk] at h8
      have H8 := Lib.hid h8
      have HB8 := Lib.hid hb8
      have HR8 := Lib.hid hr8
      have HJ := Lib.hid hzs0
      have HC5 := Lib.hid hc5
      have HN5 := Lib.hid hn5
      have HA5 := Lib.hid hA5
      clear h8 hb8 hr8 hjk hc5 hn5 hA5 hr5 h5 hbb5 hzs hzs0
      go_wp2_with fail
      go_ret
      refine ⟨rfl, A5, c5, ?_⟩
      rw [HYS.out, HNM.out, HJ.out]
      exact ⟨H8.out, HR8.out, HC5.out, HN5.out, HA5.out, HB8.out⟩
end Go.Proofs.YtbcamfbbooggfaaGreat.F
end
