/- Two rows in boxes, each loaded, appended to and stored, in whatever order. -/
import Derived.Test.YtdmfecaejdiihaaQc
import Derived.Test.YtdmfecaejdiihaaRi
import Derived.RangeFuncWrites
import Derived.RangeFuncBox
import Derived.RangeFuncCalls
set_option linter.unusedVariables false
set_option linter.unusedSimpArgs false
namespace Go.Proofs.Ytdmfecaejdiihaa.F
open Go.RowKit Go.Proofs.YtdmfecaejdiihaaW.PrintWords

theorem region_inv_in_round {P : Program} {id : Nat} {ops : Array Oper} {Q : Exit → Act → World → Prop} {I : Array Bool → Act → World → Prop} {a : Act} {w : World} (l n : Nat) (hm : P.follows .mixedOrders = true) (hnd : ops.toList.all (fun o => match o.op with | .defer _ => false | _ => true) = true) (hLO : ¬ LetsOut Q)
    (start : I (Array.replicate ops.size false) a w.drew)
    (step : ∀ listed a w i, I listed a w → i ∈ Region.ready .any ops listed → wpOp P ops Q i (I (listed.setIfInBounds i true)) a w)
    (fin : ∀ listed a w, I listed a w → Region.ready .any ops listed = [] → Q .normal a w) : (Code.region id ops true).wpIn (Fence.wide.inRound l) n P Q a w := by
  refine wpIn_region_any hm (any_in_round l n (fun o ho c e => ?_) hLO _ _ _ _ (wpAny_inv step fin _ _ _ _ (by simp [List.countP_replicate]) start))
  have := List.all_eq_true.1 hnd o ho
  rw [e] at this
  simp at this
theorem wp_append_own {P : Program} {o : Oper} {a : Act} {w : World} {K : Act → World → Prop} {Q : Exit → Act → World → Prop} (s x : Operand) (t : TypeId) (hop : o.op = Op.call { callee := Callee.builtin Builtin.append, args := #[s, x], argTypes := #[t, t] })
    (base : Nat) (e : TypeId) (i : TypeInfo) (z : Value) (size bytes : Nat) (h1 : P.underlying t = some (.slice e)) (h2 : P.info? e = some i) (h3 : i.zero = some z) (h4 : i.size = size) (h5 : i.bytes = bytes) (h6 : z.cells.size = size) (h7 : 0 < size)
    (v : Value) (k : Nat) (xs : List Value) (hs : a.eval s = v) (hown : w.ownsRow base e size v k xs) (ad : Addr) (m c : Nat) (news : List Value) (hx : a.eval x = .slice (some ad) m c) (hn : news.length = m * size)
    (hc : ∀ j u, news[j]? = some u → w.cell? (ad.add j) = some u) (h1c : ∀ u ∈ news, u.oneCell' = true) (b1 : k + m ≤ maxLen) (b2 : (k + m) * bytes ≤ 140737488355328) (b3 : base ≤ w.heap.size)
    (hK : ∀ v' w', w'.ownsRow base e size v' (k + m) (xs ++ news) → w.grownBy w' v.ownBlock → K (a.put o.dst v') w') : o.wp P a w K Q := by
  obtain ⟨v', w', hrun, r1, r2, r3⟩ := run_append_own (P := P) w base t o.type e i z size bytes h1 h2 h3 h4 h5 h6 h7 v k xs hown ad m c news hn hc h1c b1 b2 b3
  unfold Oper.wp
  simp [execOp, hop, resolve, invoke, builtin, hs, hx, hrun, Result.andThen]
  exact hK _ _ r1 r2
/-- One row in a box, from its load to its store; what has been done is told by the flags. -/
structure Ch (W : World) (B N t e : Nat) (v y : Value) (xs : List Value) (g0 g3 g4 g9 : Bool) (xL xS xA : Value) : Prop where
  d4 : g4 = true → g3 = true
  d9 : g9 = true → g4 = true
  ld : g0 = true → xL = v
  lit : g3 = true → g4 = false → ∃ b, xS = .slice (some ⟨b, 0, none⟩) 1 1 ∧ N ≤ b ∧ b < W.heap.size ∧ W.heap[b]? = some (.cells #[y] e (0, 0))
  box : W.heap[B]? = some (.cells #[if g9 then xA else v] t (0, 0))
  old : g4 = false → W.ownsRow N e 1 v xs.length xs
  new : g4 = true → W.ownsRow N e 1 xA (xs.length + 1) (xs ++ [y])
section
variable {W W' : World} {B N t e : Nat} {v y : Value} {xs : List Value} {g0 g3 g4 g9 : Bool} {xL xS xA : Value}
theorem Ch.keep (h : Ch W B N t e v y xs g0 g3 g4 g9 xL xS xA) {row : Option Nat} (hg : W.grownBy W' row) (hB : some B ≠ row) (hv : g4 = false → v.ownBlock = none ∨ v.ownBlock ≠ row) (hA : g4 = true → xA.ownBlock = none ∨ xA.ownBlock ≠ row)
    (hl : ∀ b : Nat, N ≤ b → W.heap[b]? = some (.cells #[y] e (0, 0)) → some b ≠ row) : Ch W' B N t e v y xs g0 g3 g4 g9 xL xS xA := by
  refine ⟨h.d4, h.d9, h.ld, fun h3 h4 => ?_, ?_, fun h4 => own_other (h.old h4) hg (hv h4), fun h4 => own_other (h.new h4) hg (hA h4)⟩
  · obtain ⟨b, e1, e2, e3, e4⟩ := h.lit h3 h4
    exact ⟨b, e1, e2, by have := hg.size; omega, (hg.block b e3 (hl b e2 e4)).trans e4⟩
  · exact (hg.block B (Array.getElem?_eq_some_iff.1 h.box).1 hB).trans h.box
theorem or_none (o : Option Nat) : o = none ∨ o ≠ none := by cases o <;> simp
theorem Ch.alloc (h : Ch W B N t e v y xs g0 g3 g4 g9 xL xS xA) (o : Obj) : Ch (W.alloc o) B N t e v y xs g0 g3 g4 g9 xL xS xA :=
  h.keep (World.grownBy_alloc W o none) (by simp) (fun _ => or_none _) (fun _ => or_none _) (fun _ _ _ => by simp)
theorem Ch.drew (h : Ch W B N t e v y xs g0 g3 g4 g9 xL xS xA) : Ch W.drew B N t e v y xs g0 g3 g4 g9 xL xS xA := ⟨h.d4, h.d9, h.ld, h.lit, h.box, h.old, h.new⟩
/-- The other row is written. -/
theorem Ch.other (h : Ch W B N t e v y xs g0 g3 g4 g9 xL xS xA) (hB : B < N) {e' : TypeId} {n' : Nat} {v' : Value} {xs' : List Value} (hr : W.ownsRow N e' 1 v' n' xs') (hne : e ≠ e') (hg : W.grownBy W' v'.ownBlock) : Ch W' B N t e v y xs g0 g3 g4 g9 xL xS xA :=
  h.keep hg (fun e1 => by have := own_base hr B e1.symm; omega) (fun h4 => own_type_ne (h.old h4) hr hne) (fun h4 => own_type_ne (h.new h4) hr hne) (fun b _ h2 e1 => by
    obtain ⟨cells, h3⟩ := own_typed hr b e1.symm
    rw [h2] at h3
    injection h3 with h3
    injection h3 with _ h3
    exact hne h3)
/-- The other box is stored into. -/
theorem Ch.store_other (h : Ch W B N t e v y xs g0 g3 g4 g9 xL xS xA) {B' : Nat} (hne : B ≠ B') (hN : B' < N) (u : Value) : Ch (W.setCell ⟨B', 0, none⟩ u) B N t e v y xs g0 g3 g4 g9 xL xS xA := by
  have far : ∀ {u' : Value} {n : Nat} {l : List Value}, W.ownsRow N e 1 u' n l → u'.ownBlock = none ∨ u'.ownBlock ≠ some B' := fun hr => .inr fun e1 => by have := own_base hr B' e1; omega
  exact h.keep (grownBy_setCell' W B' u) (by simp; exact hne) (fun h4 => far (h.old h4)) (fun h4 => far (h.new h4)) (fun b hb _ e1 => by injection e1 with e1; omega)
theorem Ch.loaded (h : Ch W B N t e v y xs false g3 g4 g9 xL xS xA) : Ch W B N t e v y xs true g3 g4 g9 v xS xA := ⟨h.d4, h.d9, fun _ => rfl, h.lit, h.box, h.old, h.new⟩
theorem Ch.made (h : Ch W B N t e v y xs g0 false g4 g9 xL xS xA) (hN : N ≤ W.heap.size) : Ch (W.alloc (.cells #[y] e)) B N t e v y xs g0 true g4 g9 xL (.slice (some ⟨W.heap.size, 0, none⟩) 1 1) xA := by
  have h1 := h.alloc (.cells #[y] e)
  exact ⟨fun _ => rfl, h1.d9, h1.ld, fun _ _ => ⟨_, rfl, hN, by simp, heap_alloc_new _ _⟩, h1.box, h1.old, h1.new⟩
theorem Ch.appended (h : Ch W B N t e v y xs true true false g9 v xS xA) (hB : B < N) {v' : Value} (ho : W'.ownsRow N e 1 v' (xs.length + 1) (xs ++ [y])) (hg : W.grownBy W' v.ownBlock) : Ch W' B N t e v y xs true true true g9 v xS v' := by
  have h9 : g9 = false := by
    cases g9 with
    | false => rfl
    | true => exact absurd (h.d9 rfl) (by decide)
  subst h9
  refine ⟨fun _ => rfl, fun _ => rfl, fun _ => rfl, fun _ h => (by cases h), ?_, fun h => (by cases h), fun _ => ho⟩
  exact (hg.block B (Array.getElem?_eq_some_iff.1 h.box).1 (fun e1 => by have := own_base (h.old rfl) B e1.symm; omega)).trans h.box
theorem Ch.stored (h : Ch W B N t e v y xs true true true false v xS xA) (hB : B < N) : Ch (W.setCell ⟨B, 0, none⟩ xA) B N t e v y xs true true true true v xS xA := by
  have hb : Boxed W B t v := h.box
  refine ⟨fun _ => rfl, fun _ => rfl, fun _ => rfl, fun _ h => (by cases h), hb.set xA, fun h => (by cases h), fun _ => own_other (h.new rfl) (grownBy_setCell' W B xA) (.inr fun e1 => by have := own_base (h.new rfl) B e1; omega)⟩
theorem Ch.start {B N t e : Nat} {v y : Value} {xs : List Value} (hb : Boxed W B t v) (ho : W.ownsRow N e 1 v xs.length xs) : Ch W B N t e v y xs false false false false xL xS xA :=
  ⟨fun h => (by cases h), fun h => (by cases h), fun h => (by cases h), fun h => (by cases h), hb, fun _ => ho, fun h => (by cases h)⟩
end
/-- What a step may do: nothing but cells is turned; what lies below n is as it was. -/
structure Kb (n : Nat) (w0 W : World) : Prop where
  keep : KeepsOthers w0 W
  below : Below n w0 W
theorem Kb.alloc {n : Nat} {w0 W : World} (h : Kb n w0 W) (hn : n ≤ w0.heap.size) (o : Obj) : Kb n w0 (W.alloc o) := ⟨h.keep.trans (KeepsOthers.alloc W o), h.below.alloc (Nat.le_trans hn h.below.size) o⟩
theorem Kb.store {n : Nat} {w0 W : World} (h : Kb n w0 W) {B : Nat} (hB : n ≤ B) (u : Value) : Kb n w0 (W.setCell ⟨B, 0, none⟩ u) := ⟨h.keep.trans (KeepsOthers.setCell _ _ _), h.below.setCell (p := ⟨B, 0, none⟩) hB u⟩
theorem Kb.app {n N : Nat} {w0 W W' : World} (h : Kb n w0 W) (hn : n ≤ N) (hN : N ≤ W.heap.size) {e m : Nat} {v : Value} {xs : List Value} (hr : W.ownsRow N e 1 v m xs) (hg : W.grownBy W' v.ownBlock) : Kb n w0 W' := by
  refine ⟨h.keep.trans (KeepsOthers.of_grownBy hg fun j o ej hj => ?_), h.below.grown hg (by omega) fun j ej => by have := own_base hr j ej; omega⟩
  obtain ⟨cells, h2⟩ := own_typed hr j ej
  rw [h2] at hj
  cases hj
  rfl
end Go.Proofs.Ytdmfecaejdiihaa.F
