/- Part 19 of the proof: V5, V6. -/
import Derived.Test.YtbcamfbbooggfaaGreatQ18
import Derived.RangeFuncNested
import Derived.RangeFuncBound
import Derived.RangeFuncCalls
import Derived.RangeFuncLeaves
import Derived.RangeFuncBox
import Derived.RangeFuncWrites
import Derived.Shelf.Abstract
import Derived.Shelf.RegionOpen
import Derived.WalkKit
import Derived.OwnWalkIn
import Derived.TacticsInMore
import Derived.LoopNIn
import Derived.LoopIn
import Derived.OrdersIn
import Derived.OrdersHeld
import Derived.Sort.QuietIn

section
/- A range over an iterator that keeps a state of its own (a block of cells that it writes between two rounds). -/
set_option linter.unusedVariables false
set_option linter.unusedSimpArgs false
namespace Go.Proofs.YtbcamfbbooggfaaGreat.F
open Go.RowKit Go.Proofs.YtbcamfbbooggfaaGreatW.PrintWords Go.Shelf

/-- What abides the iterator's own writes (block bn) and its objects. -/
def AbidesE {β : Type} (B bn : Nat) (J : β → World → Prop) : Prop :=
  ∀ s W W' row, J s W → W.grownBy W' row → (∀ r, row = some r → r = bn ∨ (B ≤ r ∧ ∃ o : Obj, W.heap[r]? = some o ∧ o.isWalk = true)) → J s W'
/-- The contract of an iterator that writes block bn. -/
def SeqE {α : Type} (F : Fence) (n : Nat) (P : Program) (g : Nat) (lb : Array Value) (encs : α → Array Value) (Kp : World → World → Prop) (S : List α → Prop) (N bn : Nat) (w : World) : Prop :=
  ∀ (l : Nat) (J : List α → World → Prop) (W : World), Below w.heap.size w W → AbidesE W.heap.size bn J →
    (∀ pre x W1, J pre W1 → pre.length < N → YieldAt F (n - 1) P l (encs x) W1 fun e W' => e = .returned (.bool true) ∧ J (pre ++ [x]) W' ∧ Kp W1 W') →
    J [] W →
    CallsIn F n P g (#[.func (.yield l) #[] #[]] ++ lb) W fun e W' => (∃ v, e = .returned v) ∧ ∃ xs, S xs ∧ J xs W'
section
variable {F : Fence} {n : Nat} {P : Program}
/-- The range's law over such an iterator; the body never leaves. -/
theorem wpIn_rangeFunc_ownE {α : Type} {g : Operand} {ps : Array Tmp} {assign body : Code} {Q : Exit → Act → World → Prop} {a : Act} {w : World} {bn : Nat} (hbn : bn < w.heap.size)
    (hro : F.round = none) (h1 : 1 ≤ n) {gf : Nat} {lb : Array Value} (hg : a.eval g = .func (.func gf) #[] lb) (hFg : F.fn gf) (eg : ∀ args w, (callFunc gf args).run P w = .ok (.enter gf args) w)
    {encs : α → Array Value} {Kp : World → World → Prop} {S : List α → Prop} {N : Nat} {w0 : World} (hseq : SeqE F (n - 1) P gf lb encs Kp S N bn w0)
    (hKt : ∀ {A B C : World}, Kp A B → Kp B C → Kp A C) (hKb : ∀ (W : World) (l : Nat) (o o' : Obj), w.heap.size ≤ l → W.heap[l]? = some o → o.isCells = false → o.isWalk = false → Kp W (W.putObj l o')) (hb0 : Below w0.heap.size w0 w) (hps : ∀ x, (encs x).size = ps.size)
    (I : List α → World → Prop) (hI : OwnFrom w.heap.size I) (hIE : ∀ s A B, I s A → A.grownBy B (some bn) → I s B) (h0 : I [] w) (Ax : α → Act → World → Prop) (hAx : ∀ x a', OwnFrom w.heap.size (fun (_ : Unit) W => Ax x a' W))
    (hassign : ∀ (l : Nat) (pre : List α) (x : α) (W : World) (K : Act → World → Prop), I pre W → (∀ a' W', KeepsFrom w.heap.size W W' → Kp W W' → I pre W' → Ax x a' W' → K a' W') →
      assign.wpIn (F.inRound l) (n - 1 - 1) P (Exit.then K (fun _ _ _ => False)) { tmps := (ps.zip (encs x)).foldl (fun t (p, v) => t.setIfInBounds p v) a.tmps, defers := [] } W)
    (hbody : ∀ (l : Nat) (pre : List α) (x : α) (a' : Act) (W : World), w.heap.size ≤ l → I pre W → Ax x a' W → pre.length < N → body.wpIn (F.inRound l) (n - 1 - 1) P (ownPostG w.heap.size Kp I (fun _ _ _ => False) (pre ++ [x]) W) a' W)
    (hdone : ∀ (D : Nat) (xs : List α) (W : World), w.heap.size ≤ D → S xs → I xs W → W.heap[D]? = some (.deferred (some [])) → Q .normal { a with defers := { target := .collected D, args := #[] } :: a.defers } W) :
    (Code.rangeFunc g ps assign body).wpIn F n P Q a w := by
  refine wpIn_rangeFunc ?_
  intro fn hfn
  rw [hro]
  obtain ⟨rec, hrec⟩ : ∃ rec : LoopState → Option Code → Loop, rec = fun st pe => { state := st, pending := pe, fn, tmps := a.tmps, params := ps, assign, body, defers := w.heap.size } := ⟨_, rfl⟩
  obtain ⟨D, hD⟩ : ∃ D, D = w.heap.size := ⟨_, rfl⟩
  obtain ⟨L, hL⟩ : ∃ L, L = w.heap.size + 1 := ⟨_, rfl⟩
  obtain ⟨W1, hW1⟩ : ∃ W1, (w.alloc (.deferred (some []))).alloc (.loop (rec .ready none)) = W1 := ⟨_, rfl⟩
  have hs1 : W1.heap.size = w.heap.size + 2 := by rw [← hW1]; simp
  have hL1 : W1.heap[L]? = some (.loop (rec .ready none)) := by
    rw [← hW1, hL]; have := World.alloc_heap_new (w.alloc (.deferred (some []))) (.loop (rec .ready none)); rwa [World.size_alloc] at this
  have hK1 : W1.heap[D]? = some (.deferred (some [])) := by
    rw [← hW1, hD]; exact (Below.heap_alloc _ _ _ (by simp)).trans (World.alloc_heap_new w _)
  have hb1 : Below w0.heap.size w0 W1 := by
    rw [← hW1]; exact hb0.trans ((((Below.refl _ w).alloc (Nat.le_refl _) _).alloc (by simp) _).mono hb0.size)
  refine ⟨L, [{ target := .collected D, args := #[] }], W1, { target := .fn (.func gf) lb, args := #[.func (.yield L) #[] #[]] }, W1, gf,
    #[.func (.yield L) #[] #[]] ++ lb, W1, ?_, ?_, ?_, ?_, fun _ => h1, ?_⟩
  · rw [← hW1, hrec, hL, hD]; exact run_enterLoop_outer _ _ _ _ _
  · simp only [resolve, hg]
    simp [go_sem]
  · intro f' hf'; simp [Target.leads] at hf'; subst hf'; exact hFg
  · simp [invoke, go_sem, eg]
  refine (hseq L (fun pre W => I pre W ∧ W.heap[L]? = some (.loop (rec .ready none)) ∧ W.heap[D]? = some (.deferred (some []))) W1 hb1 ?_ ?_ ⟨by rw [← hW1]; exact hI.alloc _ (hI.alloc _ h0), hL1, hK1⟩).mono ?_
  · rintro s A B row ⟨hi, hl, hk⟩ hg' hr
    have hne : ∀ k, k = L ∨ k = D → some k ≠ row := fun k hk' e => by
      rcases hr k e.symm with rfl | ⟨h, _⟩ <;> omega
    refine ⟨?_, (hg'.block L (Array.getElem?_eq_some_iff.1 hl).1 (hne L (.inl rfl))).trans hl, (hg'.block D (Array.getElem?_eq_some_iff.1 hk).1 (hne D (.inr rfl))).trans hk⟩
    cases row with
    | none => exact hI s A B none hi hg' (fun r e => by cases e)
    | some r =>
      rcases hr r rfl with rfl | ⟨h, o, ho, hw⟩
      · exact hIE s A B hi hg'
      · exact hI s A B (some r) hi hg' (fun r' e => by cases e; exact ⟨by omega, o, ho, Obj.not_cells_of_walk hw⟩)
  · rintro pre x W ⟨hi, hl, hk⟩ hlen
    have hy := run_yield (P := P) (args := encs x) hl (by rw [hrec]; exact hps x)
    rw [hrec] at hy
    refine ⟨fn, _, assign, body, hy, roundIn_of_wpIn hfn (hassign _ pre x W _ hi ?_)⟩
    intro a' Wa hka hkp hia hax
    have hla := hka.same _ _ (by omega) hl rfl
    have hka2 := hka.same _ _ (by omega) hk rfl
    refine ⟨_, run_beginRound hla (by rw [hrec]), ?_⟩
    obtain ⟨Wb, hWb⟩ : ∃ Wb, Wa.putObj L (.loop { rec .ready none with state := .busy }) = Wb := ⟨_, rfl⟩
    have hl2 : Wb.heap[L]? = some (.loop { rec .ready none with state := .busy }) := by rw [← hWb]; exact World.putObj_heap_same (Array.getElem?_eq_some_iff.1 hla).1
    have hk2 : Wb.heap[D]? = some (.deferred (some [])) := by rw [← hWb]; exact (World.putObj_heap_other (by omega)).trans hka2
    have hib : I pre Wb := by rw [← hWb]; exact hI.putObj _ hia (by omega) hla rfl
    have haxb : Ax x a' Wb := by rw [← hWb]; exact (hAx x a').putObj (s := ()) _ hax (by omega) hla rfl
    have hkb : Kp W Wb := hKt hkp (by rw [← hWb]; exact hKb _ _ _ _ (by omega) hla rfl rfl)
    rw [hWb]
    refine wpIn_mono (hbody _ pre x a' Wb (by omega) hib haxb hlen) ?_
    rintro e a3 W3 hp
    cases e with
    | normal =>
      obtain ⟨hk3, hkp3, hi3⟩ := hp
      have hl3 := hk3.same _ _ (by omega) hl2 rfl
      have hk4 := hk3.same _ _ (by omega) hk2 rfl
      have hr := run_endRound (P := P) none hl3
      refine ⟨_, _, hr, rfl, ⟨hI.putObj _ hi3 (by omega) hl3 rfl, ?_, (World.putObj_heap_other (by omega)).trans hk4⟩, hKt (hKt hkb hkp3) (hKb _ _ _ _ (by omega) hl3 rfl rfl)⟩
      rw [World.putObj_heap_same (Array.getElem?_eq_some_iff.1 hl3).1, hrec]
      rfl
    | ret => exact hp.2.elim
    | exit id => exact hp.2.elim
    | goto t => exact hp.2.elim
    | panic ch => exact hp.elim
    | outgrown => exact hp.elim
  · rintro e W2 ⟨⟨v, rfl⟩, xs, hS, hi, hl, hk⟩
    have := run_endLoop (P := P) hl (by rw [hrec]; simp)
    rw [hrec] at this
    exact ⟨none, _, this, hdone D xs _ (by omega) hS (hI.putObj _ hi (by omega) hl rfl) ((World.putObj_heap_other (by omega)).trans hk)⟩
end
end Go.Proofs.YtbcamfbbooggfaaGreat.F
end

section
/- The pieces of some bytes, one by one. -/
set_option linter.unusedVariables false
set_option linter.unusedSimpArgs false
namespace Go.Proofs.YtbcamfbbooggfaaGreat.F
open Go.RowKit Go.Proofs.YtbcamfbbooggfaaGreatW.PrintWords Go.Shelf
attribute [local go_sem] Oper.semAt_some

theorem op_in_wide {P : Program} {ops : Array Oper} {Q : Exit → Act → World → Prop} (n : Nat) (hnd : ∀ o ∈ ops.toList, ∀ c, o.op ≠ .defer c) (hLO : ¬ LetsOut Q) (i : Nat) (K : Act → World → Prop) (a : Act) (w : World) (h : wpOp P ops Q i K a w) : wpOpIn Fence.wide n P ops Q i K a w := by
  unfold wpOp at h
  unfold wpOpIn
  cases ho : ops[i]? with
  | none => rw [ho] at h; exact h
  | some o =>
    rw [ho] at h
    dsimp only at h ⊢
    have hmem : o ∈ ops.toList := by
      obtain ⟨hi, rfl⟩ := Array.getElem?_eq_some_iff.1 ho
      exact Array.getElem_mem_toList hi
    by_cases hw : Region.wanted o (yielded ops a.tmps) = true
    · rw [if_pos hw] at h ⊢
      rcases h with h | ⟨_, h⟩
      · unfold Oper.wp at h
        unfold Oper.wpIn
        refine ⟨fun f _ => trivial, ?_⟩
        rw [Oper.semAt_plain _ _ _ (hnd o hmem)]
        generalize (execOp a.eval o).run P w = r at h ⊢
        cases r with
        | ok x w' =>
          cases x <;> simp only [Oper.upon, Oper.uponIn] at h ⊢ <;>
            first
              | exact h
              | exact ⟨fun hd => by simp [Fence.wide] at hd, callsIn_wide.2 h⟩
              | exact ⟨fun hd => by simp [Fence.wide] at hd, fun c cs _ => by
                  obtain ⟨v, w', r, s⟩ := h c cs
                  exact ⟨v, w', r, stepsIn_wide.2 s⟩⟩
        | halt x w' => cases x <;> simp only [Oper.upon, Oper.uponIn] at h ⊢ <;> exact h
      · exact absurd h hLO
    · rw [if_neg hw] at h ⊢
      exact ⟨fun f _ => trivial, h⟩
theorem any_in_wide {P : Program} {ops : Array Oper} {Q : Exit → Act → World → Prop} {md : Region.Mode} (n : Nat) (hnd : ∀ o ∈ ops.toList, ∀ c, o.op ≠ .defer c) (hLO : ¬ LetsOut Q) : ∀ (fuel : Nat) (listed : Array Bool) (a : Act) (w : World), wpAny P md ops Q fuel listed a w → wpAnyIn Fence.wide n P md ops Q fuel listed a w
  | 0, _, _, _, h => h
  | fuel + 1, _, _, _, h => ⟨h.1, fun i hi => wpOpIn_mono (fun a' w' h' => any_in_wide n hnd hLO fuel _ a' w' h') (op_in_wide n hnd hLO i _ _ _ (h.2 i hi))⟩
/-- A region that draws, some effects of it late, in a wide fence. -/
theorem wide_region_late {P : Program} {ops : Array Oper} {Q : Exit → Act → World → Prop} {id n : Nat} {a : Act} {w : World} (L : List Nat) (T : World → Prop) (hm : P.follows .mixedOrders = true) (hnd : ops.toList.all (fun o => match o.op with | .defer _ => false | _ => true) = true) (hLO : ¬ LetsOut Q) (hS : T w.drew)
    (h : T w.drew → WL P .any ops Q L T ops.size (Array.replicate ops.size false) a w.drew) : (Code.region id ops true).wpIn Fence.wide n P Q a w := by
  refine wpIn_region_any hm (any_in_wide n (fun o ho c e => ?_) hLO _ _ _ _ (WL.any _ _ _ _ (h hS)))
  have := List.all_eq_true.1 hnd o ho
  rw [e] at this
  simp at this

/-- The pieces from the i-th chunk on. -/
def pcsFrom (l : List Rf) (i wi m : Nat) : List (Nat × Nat × Nat) :=
  if h : i < l.length ∧ 0 < m then (i, wi, min m (l[i].2.1 - wi)) :: pcsFrom l (i + 1) 0 (m - min m (l[i].2.1 - wi)) else []
termination_by l.length - i
theorem pcsFrom_yes (l : List Rf) (i wi m : Nat) (h : i < l.length) (hm : 0 < m) : pcsFrom l i wi m = (i, wi, min m (l[i].2.1 - wi)) :: pcsFrom l (i + 1) 0 (m - min m (l[i].2.1 - wi)) := by
  rw [pcsFrom, dif_pos ⟨h, hm⟩]
theorem pcsFrom_no (l : List Rf) (i wi m : Nat) (h : ¬ (i < l.length ∧ 0 < m)) : pcsFrom l i wi m = [] := by
  rw [pcsFrom, dif_neg h]
/-- The pieces of m bytes from a on. -/
def PcsOf (l : List Rf) (a m : Nat) (xs : List (Nat × Nat × Nat)) : Prop :=
  (upto l l.length ≤ a ∧ xs = []) ∨ ∃ i, i < l.length ∧ upto l i ≤ a ∧ a < upto l (i + 1) ∧ xs = pcsFrom l i (a - upto l i) m
def pcV (x : Nat × Nat × Nat) : Value := .agg #[.int .i64 (x.1 : Nat), .int .i64 (x.2.1 : Nat), .int .i64 (x.2.2 : Nat)]
theorem cell_grown {W W' : World} {g o : Nat} {v : Value} (h : W.cell? ⟨g, o, none⟩ = some v) (hb : W'.heap[g]? = W.heap[g]?) : W'.cell? ⟨g, o, none⟩ = some v := (cell_move (a := ⟨g, o, none⟩) hb).trans h

set_option maxRecDepth 100000 in
set_option maxHeartbeats 8000000 in
theorem pieces1_in (n : Nat) (hn : 1 ≤ n) (bR B1 B2 B3 n₀ : Nat) (l : List Rf) (a m : Nat) (w0 w : World) (hl : l.length ≤ 256) (hk : ∀ r ∈ l, RfOk r) (ham : a ≤ 1000000) (hmm : m ≤ 1000000)
    (hR : RC w0 bR l) (hw0 : Below w0.heap.size w0 w) (h1 : w.heap[B1]? = some (.cells #[.pointer (some ⟨bR, 0, none⟩)] 68 (0, 0))) (h2 : w.heap[B2]? = some (.cells #[.int .i64 (a : Nat)] 3 (0, 0))) (h3 : w.heap[B3]? = some (.cells #[.int .i64 (m : Nat)] 3 (0, 0)))
    (hB : w0.heap.size ≤ B1 ∧ w0.heap.size ≤ B2 ∧ w0.heap.size ≤ B3 ∧ B1 ≠ B3 ∧ B2 ≠ B3) (hn₀ : n₀ = w.heap.size) :
    SeqE Fence.wide n Tryz.prog 85 #[.pointer (some ⟨B1, 0, none⟩), .pointer (some ⟨B2, 0, none⟩), .pointer (some ⟨B3, 0, none⟩)] (fun x => #[pcV x]) (Below n₀) (PcsOf l a m) l.length B3 w := fun lp J W hW hJ hY h0 => by
  subst hn₀
  have l1 : B1 < w.heap.size := (Array.getElem?_eq_some_iff.1 h1).1
  have l2 : B2 < w.heap.size := (Array.getElem?_eq_some_iff.1 h2).1
  have l3 : B3 < w.heap.size := (Array.getElem?_eq_some_iff.1 h3).1
  obtain ⟨hB1, hB2, hB3, hne1, hne2⟩ := hB
  have h1' := (hW.block B1 l1).trans h1
  have h2' := (hW.block B2 l2).trans h2
  have h3' := (hW.block B3 l3).trans h3
  have hb0 : Below w0.heap.size w0 W := hw0.trans (hW.mono hw0.size)
  have k1 : W.cell? ⟨B1, 0, none⟩ = some (.pointer (some ⟨bR, 0, none⟩)) := by rw [cell_of_row _ _ _ _ _ _ h1']; rfl
  have k2 : W.cell? ⟨B2, 0, none⟩ = some (.int .i64 (a : Nat)) := by rw [cell_of_row _ _ _ _ _ _ h2']; rfl
  have hs0 := hb0.size
  have hsW := hW.size
  have HR := Lib.hid hR
  have HK := Lib.hid hk
  have HJ := Lib.hid hJ
  have HY := Lib.hid hY
  have HJ0 := Lib.hid h0
  have HB0 := Lib.hid hb0
  have H1 := Lib.hid h1'
  have H3 := Lib.hid h3'
  have hRW := hR.below hb0
  refine callsIn_of_wp Tryz.func85 rfl trivial ?_ rfl
  simp only [Tryz.ntmps85, List.size_toArray, List.length_cons, List.length_nil, Nat.reduceAdd, Nat.reduceSub, Array.replicate_succ, Array.replicate_zero, List.push_toArray, List.append_toArray, List.nil_append, List.cons_append]
  clear hR hk hJ hY h0 hb0 h1' h2' h3' h1 h2 h3 hw0
  by_cases hin : upto l l.length ≤ a
  · have hf := Find_out bR l a W hRW hl HK.out hin (by omega)
    have HF := Lib.hid hf
    clear hf hRW
    gi_wp2
    refine ⟨trivial, (callsIn_wide.2 HF.out).mono ?_⟩
    rintro e w2 ⟨rfl, hb2⟩
    have HJ2 := Lib.hid (HJ.out [] W w2 none HJ0.out ⟨hb2.os, hb2.tape, hb2.output, hb2.size, fun i hi _ => hb2.block i hi⟩ (fun r e => by cases e))
    clear hb2
    gi_wp2
    gi_loopw [5] (fun vi wr => J [] wr) (fun _ _ => 0)
    case atStart => exact HJ2.out
    case round =>
      have HJR := Lib.hid hrel
      clear hrel
      gi_wp2
      go_end0
      exact ⟨⟨_, rfl⟩, [], .inl ⟨hin, rfl⟩, HJR.out⟩
  · have hf := Find_c bR l a W hRW hl HK.out (by omega)
    have HF := Lib.hid hf
    clear hf hRW
    gi_wp2
    refine ⟨trivial, (callsIn_wide.2 HF.out).mono ?_⟩
    rintro e w2 ⟨i0, hi0, hu1, hu2, rfl, hb2⟩
    have hus := upto_succ l i0 hi0
    have HU := Lib.hid (⟨hu1, hu2⟩ : upto l i0 ≤ a ∧ a < upto l (i0 + 1))
    obtain ⟨wi0, hwi⟩ : ∃ wi0, a - upto l i0 = wi0 := ⟨_, rfl⟩
    have hwI : (a : Int) - (upto l i0 : Nat) = (wi0 : Int) := by omega
    rw [hwI]
    have HWI := Lib.hid hwi
    have HWL := Lib.hid (show ∀ h : i0 < l.length, wi0 ≤ l[i0].2.1 from fun h => by omega)
    have HJ2 := Lib.hid (HJ.out [] W w2 none HJ0.out ⟨hb2.os, hb2.tape, hb2.output, hb2.size, fun i hi _ => hb2.block i hi⟩ (fun r e => by cases e))
    have H12 := Lib.hid ((hb2.block B1 (by omega)).trans H1.out)
    have H32 := Lib.hid ((hb2.block B3 (by omega)).trans H3.out)
    have HB2 := Lib.hid (HB0.out.trans (hb2.mono hs0))
    have hs2 := hb2.size
    clear hb2 hu1 hu2 hus hwi hwI
    obtain ⟨N, hN⟩ : ∃ N, l.length = N := ⟨_, rfl⟩
    have HN := Lib.hid hN
    rw [hN] at hi0 hl
    gi_wp2
    gi_loopw [5, 6] (fun vi vw wr => ∃ (i wi mj : Nat) (ys : List (Nat × Nat × Nat)), i0 ≤ i ∧ i ≤ N ∧ vi = .int .i64 (i : Nat) ∧ vw = .int .i64 (wi : Nat) ∧ (∀ h : i < l.length, wi ≤ l[i].2.1) ∧ ys.length + i0 = i ∧ ys ++ pcsFrom l i wi mj = pcsFrom l i0 wi0 m ∧ mj ≤ m ∧ J ys wr ∧
      wr.heap[B1]? = some (.cells #[.pointer (some ⟨bR, 0, none⟩)] 68 (0, 0)) ∧ wr.heap[B3]? = some (.cells #[.int .i64 (mj : Nat)] 3 (0, 0)) ∧ Below w0.heap.size w0 wr ∧ W.heap.size ≤ wr.heap.size) (fun vi _ _ => N - (intOf vi).toNat)
    case atStart => exact ⟨i0, wi0, m, [], Nat.le_refl _, by omega, rfl, rfl, HWL.out, by simp, rfl, Nat.le_refl _, HJ2.out, H12.out, H32.out, HB2.out, hs2⟩
    case round =>
      obtain ⟨i, wi, mj, ys, hii, hiN, rfl, rfl, hwl, hys, hpc, hmj, hj, h1r, h3r, hbr, hsr⟩ := hrel
      have HJR := Lib.hid hj
      have H1R := Lib.hid h1r
      have H3R := Lib.hid h3r
      have HBR := Lib.hid hbr
      have HPC := Lib.hid hpc
      have c1 : wr.cell? ⟨B1, 0, none⟩ = some (.pointer (some ⟨bR, 0, none⟩)) := by rw [cell_of_row _ _ _ _ _ _ h1r]; rfl
      have c3 : wr.cell? ⟨B3, 0, none⟩ = some (.int .i64 (mj : Nat)) := by rw [cell_of_row _ _ _ _ _ _ h3r]; rfl
      have f3 : wr.frozen? ⟨B3, 0, none⟩ = false := frozen_of_row _ _ _ _ _ h3r
      obtain ⟨A, c, _, _, _, q0, _, _, hrv⟩ := (HR.out.below hbr).cells
      rw [HN.out] at q0
      clear hj h1r h3r hbr hpc
      by_cases hm0 : 0 < mj
      · have d1 : decide ((0 : Int) < (mj : Int)) = true := decide_eq_true (by omega)
        by_cases hiN2 : i < N
        · have d2 : decide ((i : Int) < (N : Int)) = true := decide_eq_true (by omega)
          have hiL : i < l.length := by rw [HN.out]; exact hiN2
          have hwl1 := hwl hiL
          obtain ⟨g, o, eA, hrange⟩ := hrv.ref (fun r hr => (HK.out r hr).1) i hiL
          have hri := HK.out _ (List.getElem_mem hiL)
          have hpy := pcsFrom_yes l i wi mj hiL hm0
          obtain ⟨r, hr⟩ : ∃ r, l[i] = r := ⟨_, rfl⟩
          rw [hr] at hrange hri hwl1 hpy
          have hlen := hri.2.2.2.1
          have e0 := hrange 32 (.int .i64 (r.2.1 : Nat)) (by have := rfCells_hi hri.1 0; simpa using this)
          obtain ⟨b, hb⟩ : ∃ b, r.2.1 = b := ⟨_, rfl⟩
          rw [hb] at e0 hwl1 hlen hpy
          subst eA
          have HPY := Lib.hid hpy
          have i0' : (0 : Int) ≤ (i : Int) := by omega
          have i1' : (i : Int) < (N : Int) := by omega
          have wbw : IntKind.i64.wrap ((b : Int) - (wi : Int)) = (b : Int) - (wi : Int) := by rw [IntKind.wrap_i64]; omega
          clear hrange hri hr hpy hrv hwl hb
          obtain ⟨kk, hkk⟩ : ∃ kk, min mj (b - wi) = kk := ⟨_, rfl⟩
          have hmin : (if (b : Int) - wi < mj then (b : Int) - wi else (mj : Int)) = (kk : Int) := by
            split <;> omega
          have hkm : kk ≤ mj := by omega
          have HKK := Lib.hid hkk
          clear hkk
          gi_wp2
          gi_quiet (fail)
          generalize hWq : wr.drewN _ = wq
          have hbq : Below wr.heap.size wr wq := hWq ▸ pw_below_drewN (Below.refl _ _) _
          have hjq := HJ.out ys wr wq none HJR.out ⟨hbq.os, hbq.tape, hbq.output, hbq.size, fun i hi _ => hbq.block i hi⟩ (fun r e => by cases e)
          have h1q := (hbq.block B1 (Array.getElem?_eq_some_iff.1 H1R.out).1).trans H1R.out
          have h3q := (hbq.block B3 (Array.getElem?_eq_some_iff.1 H3R.out).1).trans H3R.out
          have hb0q := HBR.out.trans (hbq.mono HBR.out.size)
          have hsq := hbq.size
          obtain ⟨fn, tmps, assign, body, hy, hRd⟩ := HY.out ys (i, wi, kk) wq hjq (by rw [HN.out]; omega)
          dsimp only [pcV] at hy
          clear hWq hbq hjq c1 c3 f3 q0 e0 hmin
          have H1Q := Lib.hid h1q
          have H3Q := Lib.hid h3q
          have HBQ := Lib.hid hb0q
          clear h1q h3q hb0q
          gi_wp2
          refine hRd.mono ?_
          rintro e W3 ⟨rfl, hj3, hk3⟩
          have h13 := (hk3.block B1 l1).trans H1Q.out
          have h33 := (hk3.block B3 l3).trans H3Q.out
          have hb3 := HBQ.out.trans (hk3.mono (by omega))
          have hs3 := hk3.size
          have c33 : W3.cell? ⟨B3, 0, none⟩ = some (.int .i64 (mj : Nat)) := by rw [cell_of_row _ _ _ _ _ _ h33]; rfl
          have f33 : W3.frozen? ⟨B3, 0, none⟩ = false := frozen_of_row _ _ _ _ _ h33
          have HJ3 := Lib.hid hj3
          have H13 := Lib.hid h13
          have H33 := Lib.hid h33
          have HB3' := Lib.hid hb3
          clear hj3 h13 h33 hb3 hk3 hRd hy
          have wmk : IntKind.i64.wrap ((mj : Int) - (kk : Int)) = (mj : Int) - (kk : Int) := by rw [IntKind.wrap_i64]; omega
          have wi1 : IntKind.i64.wrap ((i : Int) + 1) = (i : Int) + 1 := by rw [IntKind.wrap_i64]; omega
          gi_wp2
          refine wide_region_late [2] (fun w' => w'.cell? ⟨B3, 0, none⟩ = some (.int .i64 (mj : Nat))) (by kernel_rfl) (by kernel_rfl) (fun ⟨_, _, h⟩ => by obtain ⟨⟨v, hv⟩, _⟩ := h; cases hv) c33 (fun hT => ?_)
          refine WL.take (i := 0) (v := ?_) rfl (by kernel_rfl) (by kernel_rfl) (by kernel_rfl) (by kernel_rfl) (fun _ _ _ h => h) (Or.inl ⟨by rfl, ?_⟩) (by assumption) ?_
          rotate_left 1
          · (intro w' hSw; (try (replace hSw := hSw (by decide); dsimp only at hSw)); go_split_ands; go_simp; try with_reducible rfl)
          simp only [Act.put, List.getElem_toArray, List.getElem_cons_zero, List.getElem_cons_succ, List.setIfInBounds_toArray, List.set_cons_zero, List.set_cons_succ]
          refine WL.take (i := 1) (v := ?_) rfl (by kernel_rfl) (by kernel_rfl) (by kernel_rfl) (by kernel_rfl) (fun _ _ _ h => h) (Or.inl ⟨by rfl, ?_⟩) (by assumption) ?_
          rotate_left 1
          · (intro w' hSw; (try (replace hSw := hSw (by decide); dsimp only at hSw)); go_split_ands; go_simp; try with_reducible rfl)
          simp only [Act.put, List.getElem_toArray, List.getElem_cons_zero, List.getElem_cons_succ, List.setIfInBounds_toArray, List.set_cons_zero, List.set_cons_succ]
          refine WL.take (i := 2) (v := ?_) rfl (by kernel_rfl) (by kernel_rfl) (by kernel_rfl) (by kernel_rfl) (fun _ _ _ h => h) (Or.inl ⟨by rfl, ?_⟩) (by assumption) ?_
          rotate_left 1
          · (intro w' hSw; (try (replace hSw := hSw (by decide); dsimp only at hSw)); go_split_ands; go_simp; try with_reducible rfl)
          simp only [Act.put, List.getElem_toArray, List.getElem_cons_zero, List.getElem_cons_succ, List.setIfInBounds_toArray, List.set_cons_zero, List.set_cons_succ]
          refine WL.take (i := 3) (v := ?_) rfl (by kernel_rfl) (by kernel_rfl) (by kernel_rfl) (by kernel_rfl) (fun _ _ _ h => h) (Or.inl ⟨by rfl, ?_⟩) (by assumption) ?_
          rotate_left 1
          · (intro w' hSw; (try (replace hSw := hSw (by decide); dsimp only at hSw)); go_split_ands; go_simp; try with_reducible rfl)
          simp only [Act.put, List.getElem_toArray, List.getElem_cons_zero, List.getElem_cons_succ, List.setIfInBounds_toArray, List.set_cons_zero, List.set_cons_succ]
          refine WL.take (i := 4) (v := ?_) rfl (by kernel_rfl) (by kernel_rfl) (by kernel_rfl) (by kernel_rfl) (fun _ _ _ h => h) (Or.inl ⟨by rfl, ?_⟩) (by assumption) ?_
          rotate_left 1
          · (intro w' hSw; (try (replace hSw := hSw (by decide); dsimp only at hSw)); go_split_ands; go_simp; try with_reducible rfl)
          simp only [Act.put, List.getElem_toArray, List.getElem_cons_zero, List.getElem_cons_succ, List.setIfInBounds_toArray, List.set_cons_zero, List.set_cons_succ]
          refine WL.take (i := 5) (v := ?_) rfl (by kernel_rfl) (by kernel_rfl) (by kernel_rfl) (by kernel_rfl) (fun _ _ _ h => h) (Or.inl ⟨by rfl, ?_⟩) (by assumption) ?_
          rotate_left 1
          · (intro w' hSw; (try (replace hSw := hSw (by decide); dsimp only at hSw)); go_split_ands; go_simp; try with_reducible rfl)
          simp only [Act.put, List.getElem_toArray, List.getElem_cons_zero, List.getElem_cons_succ, List.setIfInBounds_toArray, List.set_cons_zero, List.set_cons_succ]
          refine WL.take (i := 6) (v := ?_) rfl (by kernel_rfl) (by kernel_rfl) (by kernel_rfl) (by kernel_rfl) (fun _ _ _ h => h) (Or.inl ⟨by rfl, ?_⟩) (by assumption) ?_
          rotate_left 1
          · (intro w' hSw; (try (replace hSw := hSw (by decide); dsimp only at hSw)); go_split_ands; go_simp; try with_reducible rfl)
          simp only [Act.put, List.getElem_toArray, List.getElem_cons_zero, List.getElem_cons_succ, List.setIfInBounds_toArray, List.set_cons_zero, List.set_cons_succ]
          refine WL.late (i := 7) (by kernel_rfl) rfl (by kernel_rfl) (fun K hK => ?_)
          go_simp
          refine hK.out _ _ ?_
          clear hK K
          refine WL.done (by kernel_rfl) ?_ _
          gi_wp2
          have hgs := Go.grownBy_setCell' W3 B3 (Value.int .i64 ((mj : Int) - (kk : Int)))
          have hjn := HJ.out (ys ++ [(i, wi, kk)]) W3 (W3.setCell ⟨B3, 0, none⟩ (.int .i64 ((mj : Int) - (kk : Int)))).drew (some B3) HJ3.out ⟨hgs.os, hgs.tape, hgs.output, hgs.size, hgs.block⟩ (fun r e => by cases e; exact .inl rfl)
          have hc3 := heap_setCell_same W3 B3 0 _ _ (.int .i64 ((mj : Int) - (kk : Int))) H33.out
          have hc1 : (W3.setCell ⟨B3, 0, none⟩ (.int .i64 ((mj : Int) - (kk : Int)))).heap[B1]? = some (.cells #[.pointer (some ⟨bR, 0, none⟩)] 68 (0, 0)) := (heap_setCell_other _ _ _ _ (fun e => hne1 e)).trans H13.out
          refine ⟨⟨i + 1, 0, mj - kk, ys ++ [(i, wi, kk)], by omega, by omega, by go_num, rfl, fun _ => Nat.zero_le _, by simp; omega, ?_, by omega, hjn, hc1, ?_, (HB3'.out.setCell (by show w0.heap.size ≤ B3; exact hB3) _).drew, ?_⟩, by simp [intOf]; omega⟩
          · rw [List.append_assoc, ← HPC.out, HPY.out, HKK.out]
            rfl
          · refine hc3.trans ?_
            rw [show ((mj - kk : Nat) : Int) = (mj : Int) - (kk : Int) by omega]
            rfl
          · have := hgs.size
            show W.heap.size ≤ (W3.setCell ⟨B3, 0, none⟩ (.int .i64 ((mj : Int) - (kk : Int)))).heap.size
            omega
        · have d2 : decide ((i : Int) < (N : Int)) = false := decide_eq_false (by omega)
          have hpn := pcsFrom_no l i wi mj (by rw [HN.out]; omega)
          have HPN := Lib.hid hpn
          clear hpn hrv hwl
          gi_wp2
          go_end0
          exact ⟨⟨_, rfl⟩, ys, .inr ⟨i0, by rw [HN.out]; omega, HU.out.1, HU.out.2, by rw [HWI.out, ← HPC.out, HPN.out, List.append_nil]⟩, HJR.out⟩
      · have d1 : decide ((0 : Int) < (mj : Int)) = false := decide_eq_false (by omega)
        have hpn := pcsFrom_no l i wi mj (by omega)
        have HPN := Lib.hid hpn
        clear hpn hrv hwl
        gi_wp2
        go_end0
        exact ⟨⟨_, rfl⟩, ys, .inr ⟨i0, by rw [HN.out]; omega, HU.out.1, HU.out.2, by rw [HWI.out, ← HPC.out, HPN.out, List.append_nil]⟩, HJR.out⟩
end Go.Proofs.YtbcamfbbooggfaaGreat.F
end
