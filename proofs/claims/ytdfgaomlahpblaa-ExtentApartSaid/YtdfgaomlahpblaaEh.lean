/- Two runs of a map are made one. -/
import Derived.Test.YtdfgaomlahpblaaEg
set_option linter.unusedVariables false
set_option linter.unusedSimpArgs false
namespace Go.Proofs.Ytdfgaomlahpblaa.F
open Go.RowKit Go.Proofs.YtdfgaomlahpblaaW.PrintWords

theorem Gr.drew {S : Nat → Prop} {a b : World} (h : Gr S a b) : Gr S a b.drew := ⟨h.os, h.tape, h.output, h.size, h.block⟩
theorem Gr.drewN {S : Nat → Prop} {a b : World} (h : Gr S a b) (n : Nat) : Gr S a (b.drewN n) := ⟨h.os, h.tape, h.output, h.size, h.block⟩
/-- A map's block. -/
def EMb (W : World) (b f t : Nat) (v : Value) : Prop := W.heap[b]? = some (.cells #[.int .i64 (f : Nat), .int .i64 (t : Nat), v] 57 (0, 0))
theorem EMb.c0 {W : World} {b f t : Nat} {v : Value} (h : EMb W b f t v) : W.cell? ⟨b, 0, none⟩ = some (.int .i64 (f : Nat)) := by rw [cell_of_row _ _ _ _ _ _ h]; rfl
theorem EMb.c1 {W : World} {b f t : Nat} {v : Value} (h : EMb W b f t v) : W.cell? ⟨b, 1, none⟩ = some (.int .i64 (t : Nat)) := by rw [cell_of_row _ _ _ _ _ _ h]; rfl
theorem EMb.c2 {W : World} {b f t : Nat} {v : Value} (h : EMb W b f t v) : W.cell? ⟨b, 2, none⟩ = some v := by rw [cell_of_row _ _ _ _ _ _ h]; rfl
theorem EMb.fr {W : World} {b f t : Nat} {v : Value} (h : EMb W b f t v) (k : Nat) : W.frozen? ⟨b, k, none⟩ = false := frozen_of_row _ _ _ _ _ h
theorem EMb.set {W : World} {b f t : Nat} {v : Value} (h : EMb W b f t v) (u : Value) : EMb (W.setCell ⟨b, 2, none⟩ u) b f t u := by
  unfold EMb
  rw [heap_setCell_same W b 2 _ _ _ h]
  rfl
theorem EMb.move {W W' : World} {b f t : Nat} {v : Value} (h : EMb W b f t v) (hm : W'.heap[b]? = W.heap[b]?) : EMb W' b f t v := hm.trans h
theorem EMb.lt {W : World} {b f t : Nat} {v : Value} (h : EMb W b f t v) : b < W.heap.size := (Array.getElem?_eq_some_iff.1 h).1
/-- What becomes of a map. -/
def MapAns (base b f t : Nat) (l : List Rn) (w : World) (e : Ending) (w' : World) : Prop := e = .returned (.tuple #[]) ∧ ∃ v, EMb w' b f t v ∧ OR w' base v l ∧ Gr (fun k => k = b ∨ base ≤ k) w w'
theorem MapAns.drawn {base b f t : Nat} {v : Value} {l : List Rn} {w : World} (hm : EMb w b f t v) (ho : OR w base v l) (n : Nat) : MapAns base b f t l w (.returned (.tuple #[])) (w.drewN n) :=
  ⟨rfl, v, hm, ho, ⟨rfl, rfl, rfl, Nat.le_refl _, fun _ _ _ => rfl⟩⟩
def joinI (l : List Rn) (i : Int) : List Rn := if i < 0 then l else joinL l i.toNat
theorem delL_join (l : List Rn) (i : Nat) (x : Rn) (h : i + 1 < l.length) : delL (l.set i x) (i + 1) (i + 2) = l.take i ++ x :: l.drop (i + 2) := by
  unfold delL
  rw [List.drop_set_of_lt (by omega), List.take_succ_eq_append_getElem (by simp; omega)]
  simp only [List.getElem_set_self, List.append_assoc, List.cons_append, List.nil_append]
  rw [List.take_set, List.set_eq_of_length_le (by simp; omega)]
theorem flatR_set : ∀ (l : List Rn) (i : Nat) (n : Nat) (h : i < l.length), (flatR l).set (i * 2 + 1) (.int .i64 (n : Nat)) = flatR (l.set i (l[i].1, n))
  | [], i, n, h => by simp at h
  | r :: l, 0, n, h => rfl
  | r :: l, i + 1, n, h => by
    have ih := flatR_set l i n (by simpa using h)
    rw [show (i + 1) * 2 + 1 = (i * 2 + 1) + 1 + 1 by omega]
    simp [flatR, ih]
theorem OR.put {W : World} {base g cap : Nat} {l : List Rn} (h : OR W base (.slice (some ⟨g, 0, none⟩) l.length cap) l) (i n : Nat) (hi : i < l.length) :
    OR (W.setCell ⟨g, i * 2 + 1, none⟩ (.int .i64 (n : Nat))) base (.slice (some ⟨g, 0, none⟩) l.length cap) (l.set i (l[i].1, n)) := by
  rcases h.2 with ⟨e, _⟩ | ⟨g', cap', cur, e, hbg, hg, hnc, hcm, hcs, htk⟩
  · cases e
  · have hh := e
    cases e
    obtain ⟨cl, hcl⟩ : ∃ cl : List Value, cur = cl.toArray := ⟨cur.toList, by simp⟩
    subst hcl
    have htk : cl.take (l.length * 2) = flatR l := htk
    rw [List.size_toArray] at hcs
    have hg2 := heap_setCell_same W g (i * 2 + 1) cl.toArray 38 (.int .i64 (n : Nat)) hg
    rw [List.setIfInBounds_toArray] at hg2
    refine OR.of_block hg2 hbg (by simp) hnc (by unfold maxLen at hcm; omega) (by simpa using hcs) ?_
    rw [← flatR_set l i n hi, ← htk, List.take_set]
set_option maxRecDepth 20000 in
set_option maxHeartbeats 8000000 in
theorem join_c (base b f t : Nat) (v : Value) (l : List Rn) (i : Int) (w : World) (hm : EMb w b f t v) (ho : OR w base v l) (hb : b < base) (hbs : base ≤ w.heap.size) (hl : l.length ≤ 10001) (hn : ∀ r ∈ l, r.1 ≤ 5000 ∧ r.2 ≤ 5000) (hi0 : -1 ≤ i) (hi1 : i ≤ 20000) :
    Calls Try.prog 34 #[.pointer (some ⟨b, 0, none⟩), .int .i64 i] w (MapAns base b f t (joinI l i) w) := by
  by_cases hneg : i < 0
  · have hd : decide (i < 0) = true := decide_eq_true hneg
    have he : joinI l i = l := if_pos hneg
    rw [he]
    have HM := Lib.hid hm
    have HO := Lib.hid ho
    clear hm ho hn he
    go_enter Try.func34, Try.ntmps34
    go_wp2_with fail
    go_quiet (fail)
    go_wp2_with fail
    go_end0
    exact MapAns.drawn HM.out HO.out _
  · obtain ⟨i, rfl⟩ : ∃ k : Nat, i = k := ⟨i.toNat, by omega⟩
    have he : joinI l i = joinL l i := by unfold joinI; rw [if_neg hneg]; rfl
    rw [he]
    have hd : decide ((i : Int) < 0) = false := decide_eq_false hneg
    obtain ⟨A, c, e, hc, hr⟩ := ho.reads
    subst e
    have c2 := hm.c2
    have i0 : (0 : Int) ≤ (i : Int) := by omega
    have wr1 : IntKind.i64.wrap ((i : Int) + 1) = (i : Int) + 1 := by rw [IntKind.wrap_i64]; omega
    have n0 : (l.length : Int) ≤ 10001 := by omega
    by_cases hlt : i + 1 < l.length
    · have hd2 : decide ((l.length : Int) ≤ (i : Int) + 1) = false := decide_eq_false (by omega)
      have hil : i < l.length := by omega
      obtain ⟨g, o, eA, hg, a1, a2⟩ := hr.at i hil
      obtain ⟨g', o', eA', _, a3, a4⟩ := hr.at (i + 1) hlt
      subst eA
      cases eA'
      have ho0 : o = 0 := by
        rcases ho.2 with ⟨h, _⟩ | ⟨_, _, _, h, _⟩
        · cases h
        · cases h; rfl
      subst ho0
      simp only [Nat.zero_add] at a1 a2 a3 a4
      have b1 := hn _ (List.getElem_mem hil)
      have b2 := hn _ (List.getElem_mem hlt)
      have hjl : joinL l i = if l[i].1 + l[i].2 = l[i + 1].1 then delL (l.set i (l[i].1, l[i].2 + l[i + 1].2)) (i + 1) (i + 2) else l := by
        unfold joinL
        rw [show l.getD i (0, 0) = l[i] by simp [List.getD_eq_getElem?_getD, hil], show l.getD (i + 1) (0, 0) = l[i + 1] by simp [List.getD_eq_getElem?_getD, hlt], delL_join _ _ _ hlt]
        by_cases c : l[i].1 + l[i].2 = l[i + 1].1
        · rw [if_pos ⟨hlt, c⟩, if_pos c]
        · rw [if_neg (fun h => c h.2), if_neg c]
      have hput := fun n => ho.put i n hil
      have hrow := ho.typed g rfl
      obtain ⟨x1, hx1⟩ : ∃ x, l[i].1 = x := ⟨_, rfl⟩
      obtain ⟨x2, hx2⟩ : ∃ x, l[i].2 = x := ⟨_, rfl⟩
      obtain ⟨y1, hy1⟩ : ∃ x, l[i + 1].1 = x := ⟨_, rfl⟩
      obtain ⟨y2, hy2⟩ : ∃ x, l[i + 1].2 = x := ⟨_, rfl⟩
      rw [hx1] at a1 b1
      rw [hx2] at a2 b1
      rw [hy1] at a3 b2
      rw [hy2] at a4 b2
      rw [hx1, hx2, hy1, hy2] at hjl
      simp only [hx1] at hput
      have n1 : (x1 : Int) ≤ 5000 := by omega
      have n2 : (x2 : Int) ≤ 5000 := by omega
      have n3 : (y1 : Int) ≤ 5000 := by omega
      have n4 : (y2 : Int) ≤ 5000 := by omega
      have m1 : IntKind.i64.wrap ((x1 : Int) + x2) = (x1 : Int) + x2 := by rw [IntKind.wrap_i64]; omega
      have m2 : IntKind.i64.wrap ((x2 : Int) + y2) = (x2 : Int) + y2 := by rw [IntKind.wrap_i64]; omega
      have i1 : (0 : Int) ≤ (i : Int) + 1 := by omega
      have i2 : (i : Int) + 1 < (l.length : Int) := by omega
      have i3 : (i : Int) < (l.length : Int) := by omega
      have i4 : ((i : Int) + 1).toNat = i + 1 := by omega
      by_cases c : x1 + x2 = y1
      · rw [if_pos c] at hjl
        rw [hjl]
        have hd3 : (((x1 : Int) + x2) != y1) = false := by simp; omega
        have HM := Lib.hid hm
        have HO := Lib.hid ho
        have HC := Lib.hid c
        have HPUT := Lib.hid (hput (x2 + y2))
        have HROW := Lib.hid hrow
        clear hm ho hn he hr c hput hrow hx1 hx2 hy1 hy2 hjl b1 b2
        go_enter Try.func34, Try.ntmps34
        go_wp2_with fail
        go_quiet (fail)
        go_wp2_with fail
        generalize hW2 : World.drewN w _ = w2
        have c2' : w2.cell? ⟨b, 2, none⟩ = some (.slice (some ⟨g, 0, none⟩) l.length c) := by rw [← hW2]; exact c2
        have a2' : w2.cell? ⟨g, i * 2 + 1, none⟩ = some (.int .i64 (x2 : Nat)) := by rw [← hW2]; exact a2
        have a4' : w2.cell? ⟨g, (i + 1) * 2 + 1, none⟩ = some (.int .i64 (y2 : Nat)) := by rw [← hW2]; exact a4
        obtain ⟨hrb, hrs, cs, hrg⟩ := HROW.out
        have hgr : Gr (fun k => k = b ∨ base ≤ k) w w2 := by rw [← hW2]; exact ⟨rfl, rfl, rfl, Nat.le_refl _, fun _ _ _ => rfl⟩
        have hm2 : EMb w2 b f t (.slice (some ⟨g, 0, none⟩) l.length c) := by rw [← hW2]; exact HM.out
        have hp2 : OR (w2.setCell ⟨g, i * 2 + 1, none⟩ (.int .i64 ((x2 + y2 : Nat) : Int))) base (.slice (some ⟨g, 0, none⟩) l.length c) (l.set i (x1, x2 + y2)) := by rw [← hW2]; exact HPUT.out
        have f2 : w2.frozen? ⟨g, i * 2 + 1, none⟩ = false := by rw [← hW2]; exact frozen_of_row (w := w) _ _ _ _ hrg
        have hne : ¬ (b = g) := by omega
        have hne' : ¬ (g = b) := by omega
        have hs2 : base ≤ w2.heap.size := by rw [← hW2]; exact hbs
        have HM2 := Lib.hid hm2
        have HP2 := Lib.hid hp2
        have HGR := Lib.hid hgr
        clear hW2 c2 a1 a2 a3 a4 hrg hm2 hp2 hgr HM HPUT HROW
        go_still_tail 20, (by kernel_rfl)
        go_wp2_with fail
        have hgg : g < w2.heap.size := by have := HGR.out.size; omega
        have hg3 : Gr (fun k => k = b ∨ base ≤ k) w (w2.setCell ⟨g, i * 2 + 1, none⟩ (.int .i64 ((x2 : Int) + y2))).drew :=
          (HGR.out.trans (Gr.setCell (S := fun k => k = b ∨ base ≤ k) w2 ⟨g, i * 2 + 1, none⟩ _ (.inr hrb)) (fun _ _ h => h)).drew
        have hm3 : EMb (w2.setCell ⟨g, i * 2 + 1, none⟩ (.int .i64 ((x2 : Int) + y2))).drew b f t (.slice (some ⟨g, 0, none⟩) l.length c) := HM2.out.move (heap_setCell_other _ _ _ _ hne)
        have hp3 : OR (w2.setCell ⟨g, i * 2 + 1, none⟩ (.int .i64 ((x2 : Int) + y2))).drew base (.slice (some ⟨g, 0, none⟩) l.length c) (l.set i (x1, x2 + y2)) := by
          have h := HP2.out
          rw [show ((x2 + y2 : Nat) : Int) = (x2 : Int) + y2 by omega] at h
          exact h
        have hs3 : base ≤ (w2.setCell ⟨g, i * 2 + 1, none⟩ (.int .i64 ((x2 : Int) + y2))).drew.heap.size := Nat.le_trans hbs hg3.size
        have hdc := Delete_c base _ _ (i + 1) (i + 2) _ hp3 hs3 (by omega) (by rw [List.length_set]; omega) (by rw [List.length_set]; omega)
        rw [show ((i + 1 : Nat) : Int) = (i : Int) + 1 by omega, show ((i + 2 : Nat) : Int) = (i : Int) + 2 by omega] at hdc
        refine hdc.mono ?_
        clear hdc
        rintro e w4 ⟨v4, rfl, ho4, hb4⟩
        obtain ⟨A4, k4, e4, _, _⟩ := ho4.reads
        subst e4
        have hm4 : EMb w4 b f t (.slice (some ⟨g, 0, none⟩) l.length c) := hm3.move (hb4.block b hb)
        have hg4 : Gr (fun k => k = b ∨ base ≤ k) w w4 := hg3.trans (S' := fun k => base ≤ k) ⟨hb4.os, hb4.tape, hb4.output, hb4.size, fun k hk hn => hb4.block k (by omega)⟩ (fun _ _ h => .inr h)
        have c4 := hm4.c2
        have f4 := hm4.fr 2
        have HO4 := Lib.hid ho4
        have HM4 := Lib.hid hm4
        have HG4 := Lib.hid hg4
        clear hg3 hm3 hp3 hs3 hb4 ho4 hm4 hg4
        go_wp2_with fail
        go_end0
        refine ⟨rfl, _, HM4.out.set _, HO4.out.move (fun k hk => heap_setCell_other _ _ _ _ (fun e => ?_)), HG4.out.trans (Gr.setCell (S := fun k => k = b ∨ base ≤ k) w4 ⟨b, 2, none⟩ _ (.inl rfl)) (fun _ _ h => h)⟩
        have := (HO4.out.typed k hk).1
        subst e
        exact absurd hb (by simp; omega)
      · rw [if_neg c] at hjl
        rw [hjl]
        have hd3 : (((x1 : Int) + x2) != y1) = true := by simp; omega
        have HM := Lib.hid hm
        have HO := Lib.hid ho
        clear hm ho hn he hr c hput hrow hx1 hx2 hy1 hy2 hjl b1 b2
        go_enter Try.func34, Try.ntmps34
        go_wp2_with fail
        go_quiet (fail)
        go_wp2_with fail
        go_end0
        exact MapAns.drawn HM.out HO.out _
    · have hd2 : decide ((l.length : Int) ≤ (i : Int) + 1) = true := decide_eq_true (by omega)
      have hjl : joinL l i = l := by unfold joinL; rw [if_neg (fun h => hlt h.1)]
      rw [hjl]
      have HM := Lib.hid hm
      have HO := Lib.hid ho
      clear hm ho hn he hr
      go_enter Try.func34, Try.ntmps34
      go_wp2_with fail
      go_quiet (fail)
      go_wp2_with fail
      go_end0
      exact MapAns.drawn HM.out HO.out _
end Go.Proofs.Ytdfgaomlahpblaa.F
