/- Part 20 of the proof: V7. -/
import Derived.Test.YtbcamfbbooggfaaGreatQ19

/- The pieces collected; the pieces of some bytes. -/
set_option linter.unusedVariables false
set_option linter.unusedSimpArgs false
namespace Go.Proofs.YtbcamfbbooggfaaGreat.F
open Go.RowKit Go.Proofs.YtbcamfbbooggfaaGreatW.PrintWords Go.Shelf
attribute [local go_sem] Oper.semAt_some

def pcCells (x : Nat × Nat × Nat) : List Value := [.int .i64 (x.1 : Nat), .int .i64 (x.2.1 : Nat), .int .i64 (x.2.2 : Nat)]
def flatP (l : List (Nat × Nat × Nat)) : List Value := l.flatMap pcCells
theorem flatP_len (l : List (Nat × Nat × Nat)) : (flatP l).length = l.length * 3 := by
  induction l with
  | nil => rfl
  | cons x l ih =>
    rw [show flatP (x :: l) = pcCells x ++ flatP l from rfl, List.length_append, ih, List.length_cons]
    simp [pcCells]
    omega
theorem flatP_append (a b : List (Nat × Nat × Nat)) : flatP (a ++ b) = flatP a ++ flatP b := by simp [flatP]
def zeroPc : Array Value := #[.int .i64 0, .int .i64 0, .int .i64 0]
theorem infoPc : (Tryz.prog.info? 77).map (fun i => (i.zero, i.size, i.bytes)) = some (some (.agg zeroPc), 3, 24) := by kernel_rfl
/-- A block of cells abides what turns no cells. -/
theorem cells_abide {A B : World} {row : Option Nat} {k : Nat} {cs : Array Value} {t : TypeId} {x : Nat × Nat} (h : A.heap[k]? = some (.cells cs t x)) (hg : A.grownBy B row) (hr : ∀ r, row = some r → ∃ o : Obj, A.heap[r]? = some o ∧ o.isCells = false) : B.heap[k]? = some (.cells cs t x) :=
  (grownBy_keeps_cells hg hr h rfl).trans h
theorem own_abide {A B : World} {row : Option Nat} {base n k : Nat} {t : TypeId} {v : Value} {F : List Value} (h : A.ownsRow base t k v n F) (hg : A.grownBy B row) (hr : ∀ r, row = some r → ∃ o : Obj, A.heap[r]? = some o ∧ o.isCells = false) : B.ownsRow base t k v n F := by
  refine own_move h (fun b hb => ?_)
  rcases h.2 with ⟨e, _⟩ | ⟨g, cap, cur, e, _, hh, _⟩
  · rw [e] at hb; cases hb
  · rw [e] at hb
    injection hb with hb
    subst hb
    exact grownBy_keeps_cells hg hr hh rfl

theorem own_lower {w : World} {base b n k : Nat} {t : TypeId} {v : Value} {F : List Value} (h : w.ownsRow base t k v n F) (hb : b ≤ base) : w.ownsRow b t k v n F := by
  refine ⟨h.1, ?_⟩
  rcases h.2 with h | ⟨g, cap, cur, e, h1, h2⟩
  · exact .inl h
  · exact .inr ⟨g, cap, cur, e, Nat.le_trans hb h1, h2⟩
/-- What is collected lies in the box. -/
def ColI (w : World) (B base bn : Nat) (pre : List (Nat × Nat × Nat)) (W : World) : Prop :=
  (∃ v, W.heap[B]? = some (.cells #[v] 71 (0, 0)) ∧ W.ownsRow base 77 3 v pre.length (flatP pre)) ∧ Gr (fun k => k = bn) w W
set_option maxRecDepth 100000 in
set_option maxHeartbeats 8000000 in
theorem AppendSeq_c (f : Nat) (lb : Array Value) (l : List Rf) (a m bn : Nat) (w : World) (hl : l.length ≤ 256) (hbn : bn < w.heap.size) (eg : ∀ args W, (callFunc f args).run Tryz.prog W = .ok (.enter f args) W)
    (hseq : SeqE Fence.wide 2 Tryz.prog f lb (fun x => #[pcV x]) (Below w.heap.size) (PcsOf l a m) l.length bn w) :
    CallsIn Fence.wide 3 Tryz.prog 84 #[.slice none 0 0, .func (.func f) #[] lb] w fun e w' => ∃ v xs, e = .returned v ∧ PcsOf l a m xs ∧ w'.ownsRow w.heap.size 77 3 v xs.length (flatP xs) ∧ Gr (fun k => k = bn) w w' := by
  obtain ⟨W0, hW0⟩ : ∃ W0, w.alloc (.cells #[.slice none 0 0] 71) = W0 := ⟨_, rfl⟩
  have hb0 : Below w.heap.size w W0 := hW0 ▸ (Below.refl _ _).alloc (Nat.le_refl _) _
  have hg0 : W0.heap[w.heap.size]? = some (.cells #[.slice none 0 0] 71 (0, 0)) := hW0 ▸ heap_alloc_new _ _
  have hs0 : W0.heap.size = w.heap.size + 1 := by rw [← hW0]; simp
  refine callsIn_of_wp_marks Tryz.func84 rfl trivial ?_ rfl
  simp only [Tryz.ntmps84, List.size_toArray, List.length_cons, List.length_nil, Nat.reduceAdd, Nat.reduceSub, Array.replicate_succ, Array.replicate_zero, List.push_toArray, List.append_toArray, List.nil_append, List.cons_append]
  have HW0 := Lib.hid hW0
  clear hW0
  gi_wp2_with (rw [HW0.out])
  refine wpIn_rangeFunc_ownE (bn := bn) (by omega) rfl (by omega) (gf := f) (lb := lb) rfl trivial eg hseq belowK_t (belowK_b (by omega)) hb0 (fun _ => rfl) (ColI w w.heap.size (w.heap.size + 1) bn) ?hI ?hIE ?h0
    (fun x a' W => ∃ Bx, w.heap.size < Bx ∧ W.heap[Bx]? = some (.cells (pcCells x).toArray 77 (0, 0)) ∧ a' = { tmps := #[.slice none 0 0, .func (.func f) #[] lb, .pointer (some ⟨w.heap.size, 0, none⟩), undef, .slice none 0 0, .pointer (some ⟨Bx, 0, none⟩), .func (.func f) #[] lb, pcV x, undef, undef, undef, undef, undef], defers := [] }) ?hAx ?assign ?body ?done
  case hI =>
    rintro s A B row ⟨⟨v, h1, h2⟩, h3⟩ hg hr
    refine ⟨⟨v, cells_abide h1 hg (fun r e => (hr r e).2), own_abide h2 hg (fun r e => (hr r e).2)⟩, ?_⟩
    exact ⟨hg.os.trans h3.os, hg.tape.trans h3.tape, hg.output.trans h3.output, Nat.le_trans h3.size hg.size, fun i hi hn => (hg.block i (Nat.lt_of_lt_of_le hi h3.size) (fun e => by have := (hr i e.symm).1; omega)).trans (h3.block i hi hn)⟩
  case hIE =>
    rintro s A B ⟨⟨v, h1, h2⟩, h3⟩ hg
    refine ⟨⟨v, (hg.block _ (Array.getElem?_eq_some_iff.1 h1).1 (fun e => by injection e with e; omega)).trans h1, own_move h2 (fun b hb => hg.block b (own_lt h2 b hb) (fun e => by injection e with e; have := own_base h2 b hb; omega))⟩, ?_⟩
    exact ⟨hg.os.trans h3.os, hg.tape.trans h3.tape, hg.output.trans h3.output, Nat.le_trans h3.size hg.size, fun i hi hn => (hg.block i (Nat.lt_of_lt_of_le hi h3.size) (fun e => hn (Option.some.inj e))).trans (h3.block i hi hn)⟩
  case h0 => exact ⟨⟨_, hg0, World.ownsRow_nil _ _ _ _⟩, Gr.of_below _ hb0⟩
  case hAx =>
    rintro x a' s A B row ⟨Bx, h1, h2, h3⟩ hg hr
    exact ⟨Bx, h1, cells_abide h2 hg (fun r e => (hr r e).2), h3⟩
  case assign =>
    rintro lp pre ⟨xi, xf, xn⟩ W K hi hK
    dsimp only [pcV] at hK ⊢
    have hs := hi.2.size
    have HK := Lib.hid (hK _ (W.alloc (.cells #[.int .i64 (xi : Nat), .int .i64 (xf : Nat), .int .i64 (xn : Nat)] 77)) ((KeepsOthers.alloc _ _).from _) ((Below.refl _ W).alloc hs _) ⟨hi.1.elim fun v h => ⟨v, (Below.heap_alloc _ _ _ (Array.getElem?_eq_some_iff.1 h.1).1).trans h.1, own_move h.2 (fun b hb => Below.heap_alloc _ _ _ (own_lt h.2 b hb))⟩, hi.2.trans (S' := fun _ => False) (Gr.of_below _ ((Below.refl _ _).alloc (Nat.le_refl _) _)) (fun _ _ h => h.elim)⟩ ⟨W.heap.size, by have := (Array.getElem?_eq_some_iff.1 (hi.1.choose_spec).1).1; omega, heap_alloc_new _ _, rfl⟩)
    clear hK hi
    gi_wp2
    exact HK.out
  case body =>
    rintro lp pre ⟨xi, xf, xn⟩ a' W hlp ⟨⟨v, h1, h2⟩, h3⟩ ⟨Bx, hBx, hx, rfl⟩ hlen
    dsimp only [pcV, pcCells] at hx ⊢
    have c0 : W.cell? ⟨Bx, 0, none⟩ = some (.int .i64 (xi : Nat)) := by rw [cell_of_row _ _ _ _ _ _ hx]; rfl
    have c1 : W.cell? ⟨Bx, 1, none⟩ = some (.int .i64 (xf : Nat)) := by rw [cell_of_row _ _ _ _ _ _ hx]; rfl
    have c2 : W.cell? ⟨Bx, 2, none⟩ = some (.int .i64 (xn : Nat)) := by rw [cell_of_row _ _ _ _ _ _ hx]; rfl
    have cB : W.cell? ⟨w.heap.size, 0, none⟩ = some v := by rw [cell_of_row _ _ _ _ _ _ h1]; rfl
    have fB : W.frozen? ⟨w.heap.size, 0, none⟩ = false := frozen_of_row _ _ _ _ _ h1
    obtain ⟨A, c, e, hc, _, _⟩ := RV.ofOwn h2
    subst e
    have H1 := Lib.hid h1
    have H2 := Lib.hid h2
    have H3 := Lib.hid h3
    have hs := h3.size
    clear h1 h2 h3 hx
    obtain ⟨i0, hi0, hz0, hz1, hz2⟩ := info_parts infoPc
    have hba : Below W.heap.size W (W.alloc (.cells #[.int .i64 (xi : Nat), .int .i64 (xf : Nat), .int .i64 (xn : Nat)] 77)) := (Below.refl _ _).alloc (Nat.le_refl _) _
    have hoa := pw_own_below H2.out hba
    have hlB : w.heap.size < W.heap.size := (Array.getElem?_eq_some_iff.1 H1.out).1
    have hcells : ∀ j u, (pcCells (xi, xf, xn))[j]? = some u → (W.alloc (.cells #[.int .i64 (xi : Nat), .int .i64 (xf : Nat), .int .i64 (xn : Nat)] 77)).cell? ((⟨W.heap.size, 0, none⟩ : Addr).add j) = some u := fun j u hu => by
      rw [Addr.add_lit, Nat.zero_add, cell_of_row _ _ _ _ _ _ (heap_alloc_new _ _)]
      simpa [pcCells] using hu
    have HOA := Lib.hid hoa
    have HBA := Lib.hid hba
    have HCE := Lib.hid hcells
    have hsa : w.heap.size + 1 ≤ (W.alloc (.cells #[.int .i64 (xi : Nat), .int .i64 (xf : Nat), .int .i64 (xn : Nat)] 77)).heap.size := by have := hba.size; omega
    clear hoa hba hcells
    gi_wp2_with (gi_at_builtin; refine wpListIn_append_own _ rfl (.tmp 8) (.tmp 10) 71 rfl (w.heap.size + 1) 77 i0 (.agg zeroPc) 3 24 Tryz.underlying71 hi0 hz0 hz1 hz2 rfl (by decide) (.slice A pre.length c) pre.length (flatP pre) rfl HOA.out ⟨W.heap.size, 0, none⟩ 1 1 (pcCells (xi, xf, xn)) rfl rfl HCE.out (by simp [pcCells, Value.oneCell']) (by simp only [maxLen]; omega) (by omega) hsa ?_
                 intro v7 w7 ho7 hg7 _
                 have hne : ∀ k, (Value.slice A pre.length c).ownBlock = some k → k ≠ w.heap.size := fun k hk e => by have := own_base HOA.out k hk; omega
                 have h17 := (hg7.block w.heap.size (by omega) (fun e => hne _ e.symm rfl)).trans ((HBA.out.block w.heap.size hlB).trans H1.out)
                 have ho7' : w7.ownsRow (w.heap.size + 1) 77 3 v7 (pre ++ [(xi, xf, xn)]).length (flatP (pre ++ [(xi, xf, xn)])) := by
                   rw [flatP_append, List.length_append]
                   simpa [flatP] using ho7
                 obtain ⟨A7, c7, e7, hc7, _, _⟩ := RV.ofOwn ho7'
                 subst e7
                 have cB7 : w7.cell? ⟨w.heap.size, 0, none⟩ = some (.slice A pre.length c) := by rw [cell_of_row _ _ _ _ _ _ h17]; rfl
                 have fB7 : w7.frozen? ⟨w.heap.size, 0, none⟩ = false := frozen_of_row _ _ _ _ _ h17)
    have hkr : ∀ (j : Nat) (o : Obj), (Value.slice A pre.length c).ownBlock = some j → (W.alloc (.cells #[.int .i64 (xi : Nat), .int .i64 (xf : Nat), .int .i64 (xn : Nat)] 77)).heap[j]? = some o → o.isCells = true := fun j o hj ho => by
      rcases HOA.out.2 with ⟨e, _⟩ | ⟨g, cap, cur, e, _, hh, _⟩
      · rw [e] at hj; cases hj
      · rw [e] at hj
        injection hj with hj
        subst hj
        rw [hh] at ho
        injection ho with ho
        rw [← ho]
        rfl
    have hne7 : ∀ k, (Value.slice A7 (pre ++ [(xi, xf, xn)]).length c7).ownBlock = some k → k ≠ w.heap.size := fun k hk e => by have := own_base ho7' k hk; omega
    have hb7 : Below w.heap.size W w7 := (HBA.out.mono (by omega)).grown hg7 (by omega) (fun k e => by have := own_base HOA.out k e; omega)
    refine ⟨(((KeepsOthers.alloc _ _).trans (KeepsOthers.of_grownBy hg7 hkr)).trans (KeepsOthers.setCell _ _ _)).from _, hb7.setCell (Nat.le_refl _) _, ⟨.slice A7 (pre.length + 1) c7, ?_, ?_⟩, ?_⟩
    · exact heap_setCell_same w7 w.heap.size 0 _ _ _ h17
    · have := own_move (w1 := w7.setCell ⟨w.heap.size, 0, none⟩ (.slice A7 (pre.length + 1) c7)) ho7' (fun k hk => heap_setCell_other _ _ _ _ (fun e => hne7 k hk e))
      simpa using this
    · have hg1 : Gr (fun k => k = bn) w w7 := H3.out.trans (S' := fun k => w.heap.size ≤ k) ⟨hb7.os, hb7.tape, hb7.output, hb7.size, fun i hi hn => hb7.block i (by omega)⟩ (fun x hx hS => absurd hS (by omega))
      exact hg1.trans (S' := fun k => k = w.heap.size) (Gr.setCell _ _ _ rfl) (fun x hx hS => by have hS : x = w.heap.size := hS; omega)
  case done =>
    rintro D xs W hD hS ⟨⟨v, h1, h2⟩, h3⟩ hK
    have cB : W.cell? ⟨w.heap.size, 0, none⟩ = some v := by rw [cell_of_row _ _ _ _ _ _ h1]; rfl
    obtain ⟨A, c, e, hc, _, _⟩ := RV.ofOwn h2
    subst e
    gi_wp2
    refine ⟨by simp, .inl ⟨_, _, rfl, run_takeDeferred hK, ?_⟩⟩
    have hlD := (Array.getElem?_eq_some_iff.1 hK).1
    have hgD := grownBy_putObj' W D (.deferred none)
    refine ⟨.slice A xs.length c, by simp [results, Tryz.f84, go_sem], _, xs, rfl, hS, own_lower (own_abide h2 hgD (fun r e => by cases e; exact ⟨_, hK, rfl⟩)) (by omega), ?_⟩
    exact ⟨hgD.os.trans h3.os, hgD.tape.trans h3.tape, hgD.output.trans h3.output, Nat.le_trans h3.size hgD.size, fun i hi hn => (hgD.block i (Nat.lt_of_lt_of_le hi h3.size) (fun e => by have := Option.some.inj e; omega)).trans (h3.block i hi hn)⟩
theorem Collect_c (f : Nat) (lb : Array Value) (l : List Rf) (a m bn : Nat) (w : World) (hl : l.length ≤ 256) (hbn : bn < w.heap.size) (eg : ∀ args W, (callFunc f args).run Tryz.prog W = .ok (.enter f args) W)
    (hseq : SeqE Fence.wide 2 Tryz.prog f lb (fun x => #[pcV x]) (Below w.heap.size) (PcsOf l a m) l.length bn w) :
    Calls Tryz.prog 48 #[.func (.func f) #[] lb] w fun e w' => ∃ v xs, e = .returned v ∧ PcsOf l a m xs ∧ w'.ownsRow w.heap.size 77 3 v xs.length (flatP xs) ∧ Gr (fun k => k = bn) w w' := by
  have hc := callsIn_wide.1 (AppendSeq_c f lb l a m bn w hl hbn eg hseq)
  have HC := Lib.hid hc
  clear hc hseq eg
  go_enter Tryz.func48, Tryz.ntmps48
  go_wp2_with fail
  refine HC.out.mono ?_
  rintro e w1 ⟨v, xs, rfl, hS, ho, hg⟩
  have HS := Lib.hid hS
  have HO := Lib.hid ho
  have HG := Lib.hid hg
  clear hS ho hg
  go_wp2_with fail
  go_ret
  exact ⟨v, xs, rfl, HS.out, HO.out, HG.out⟩
theorem pieces_c (b a m : Nat) (w : World) : Calls Tryz.prog 49 #[.pointer (some ⟨b, 0, none⟩), .int .i64 (a : Nat), .int .i64 (m : Nat)] w fun e w' => e = .returned (.func (.func 85) #[] #[.pointer (some ⟨w.heap.size, 0, none⟩), .pointer (some ⟨w.heap.size + 1, 0, none⟩), .pointer (some ⟨w.heap.size + 2, 0, none⟩)]) ∧
    w' = ((w.alloc (.cells #[.pointer (some ⟨b, 0, none⟩)] 68)).alloc (.cells #[.int .i64 (a : Nat)] 3)).alloc (.cells #[.int .i64 (m : Nat)] 3) := by
  go_enter Tryz.func49, Tryz.ntmps49
  go_wp2_with fail
  go_ret
  exact ⟨rfl, rfl⟩
set_option maxRecDepth 20000 in
set_option maxHeartbeats 8000000 in
/-- The pieces of m bytes from a on. -/
theorem Cut_c (b : Nat) (l : List Rf) (a m : Nat) (w : World) (h : RC w b l) (hl : l.length ≤ 256) (hk : ∀ r ∈ l, RfOk r) (ha : a ≤ upto l l.length) (hm : m ≤ 1000000) :
    Calls Tryz.prog 21 #[.pointer (some ⟨b, 0, none⟩), .int .i64 (a : Nat), .int .i64 (m : Nat)] w fun e w' => ∃ v xs, e = .returned (.tuple #[v, .int .i64 0]) ∧ PcsOf l a m xs ∧ w'.ownsRow w.heap.size 77 3 v xs.length (flatP xs) ∧ Below w.heap.size w w' := by
  have hs := RSize_c b l w h hl
  have hum := upto_le l hk l.length
  have HA := Lib.hid ha
  obtain ⟨u, hu⟩ : ∃ u, upto l l.length = u := ⟨_, rfl⟩
  rw [hu] at hs ha hum
  have HS := Lib.hid hs
  have HC := Lib.hid h
  have HK := Lib.hid hk
  have d1 : decide ((a : Int) < 0) = false := decide_eq_false (by omega)
  have d2 : decide ((u : Int) < (a : Int)) = false := decide_eq_false (by omega)
  have d2' : decide (u < a) = false := decide_eq_false (by omega)
  have d3 : decide ((m : Int) < 0) = false := decide_eq_false (by omega)
  clear hs h hu hk
  go_enter Tryz.func21, Tryz.ntmps21
  go_wp2_with fail
  refine HS.out.mono ?_
  rintro e w1 ⟨rfl, hb1⟩
  have HB1 := Lib.hid hb1
  have HC1 := Lib.hid (HC.out.below hb1)
  have hs1 := hb1.size
  clear hb1
  go_wp2_with fail
  refine (pieces_c b a m w1).mono ?_
  rintro e w2 ⟨rfl, hw2⟩
  have ha1 : Below w1.heap.size w1 (w1.alloc (.cells #[.pointer (some ⟨b, 0, none⟩)] 68)) := (Below.refl _ _).alloc (Nat.le_refl _) _
  have hb2 : Below w1.heap.size w1 w2 := by
    rw [hw2]
    exact (ha1.alloc (by simp) _).alloc (by simp; omega) _
  have hs2 : w2.heap.size = w1.heap.size + 3 := by rw [hw2]; simp
  have h1 : w2.heap[w1.heap.size]? = some (.cells #[.pointer (some ⟨b, 0, none⟩)] 68 (0, 0)) := by
    rw [hw2]
    exact ((Below.heap_alloc _ _ _ (by simp; omega)).trans (Below.heap_alloc _ _ _ (by simp))).trans (heap_alloc_new _ _)
  have h2 : w2.heap[w1.heap.size + 1]? = some (.cells #[.int .i64 (a : Nat)] 3 (0, 0)) := by
    rw [hw2]
    refine (Below.heap_alloc _ _ _ (by simp)).trans ?_
    have := heap_alloc_new (w1.alloc (.cells #[.pointer (some ⟨b, 0, none⟩)] 68)) (.cells #[.int .i64 (a : Nat)] 3)
    simpa using this
  have h3 : w2.heap[w1.heap.size + 2]? = some (.cells #[.int .i64 (m : Nat)] 3 (0, 0)) := by
    rw [hw2]
    have := heap_alloc_new ((w1.alloc (.cells #[.pointer (some ⟨b, 0, none⟩)] 68)).alloc (.cells #[.int .i64 (a : Nat)] 3)) (.cells #[.int .i64 (m : Nat)] 3)
    simpa using this
  have hseq := pieces1_in 2 (by decide) b w1.heap.size (w1.heap.size + 1) (w1.heap.size + 2) w2.heap.size l a m w1 w2 hl HK.out (by omega) hm HC1.out hb2 h1 h2 h3 (by omega) rfl
  have hcol := Collect_c 85 _ l a m (w1.heap.size + 2) w2 hl (by omega) (enters_of Tryz.func85 (by kernel_rfl) rfl) hseq
  have HCOL := Lib.hid hcol
  have HB2 := Lib.hid hb2
  clear hseq hcol h1 h2 h3 hw2 hb2 ha1
  go_wp2_with fail
  refine HCOL.out.mono ?_
  rintro e w3 ⟨v, xs, rfl, hS, ho, hg⟩
  have hb3 : Below w.heap.size w w3 := (HB1.out.trans (HB2.out.mono hs1)).trans (hg.below (by omega) (fun x hx => by omega))
  have HS3 := Lib.hid hS
  have HO3 := Lib.hid (own_lower ho (show w.heap.size ≤ w2.heap.size by omega))
  have HB3 := Lib.hid hb3
  obtain ⟨A, c, e, hc, _, _⟩ := RV.ofOwn ho
  subst e
  clear hS ho hg hb3
  go_wp2_with fail
  go_ret2
  exact ⟨_, xs, rfl, HS3.out, HO3.out, HB3.out⟩
end Go.Proofs.YtbcamfbbooggfaaGreat.F
