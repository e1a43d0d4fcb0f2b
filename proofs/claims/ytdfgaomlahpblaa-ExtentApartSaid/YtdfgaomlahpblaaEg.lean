/- A run is struck out of a row; two runs are made one. -/
import Derived.Test.YtdfgaomlahpblaaEf
set_option linter.unusedVariables false
set_option linter.unusedSimpArgs false
namespace Go.Proofs.Ytdfgaomlahpblaa.F
open Go.RowKit Go.Proofs.YtdfgaomlahpblaaW.PrintWords

section
variable {P : Program} {ops : Array Oper} {rest : List Oper} {o : Oper} {a : Act} {Q : Exit → Act → World → Prop} {K : Act → World → Prop}
theorem run_clear_K (w : World) (t e ty : TypeId) (z : Value) (ht : P.underlying t = some (.slice e)) (hv : ∀ w, (zeroValue e).run P w = .ok z w) (h1 : ∀ u ∈ z.cells.toList, u.oneCell' = true)
    (g o n c : Nat) (cur : Array Value) (t' : TypeId) (hg : w.heap[g]? = some (.cells cur t' (0, 0))) (hn : 0 < n) (hfit : o + n * z.cells.size ≤ cur.size) :
    (Builtin.clear_ #[t] ty #[.slice (some ⟨g, o, none⟩) n c]).run P w = .ok (.tuple #[]) (w.setRow g (cur.toList.take o ++ (Builtin.zeroCells z.cells n).toList ++ cur.toList.drop (o + (Builtin.zeroCells z.cells n).toList.length)).toArray) := by
  have hall : ∀ u ∈ (Builtin.zeroCells z.cells n).toList, u.oneCell' = true := fun u hu => by
    have hu2 : u ∈ Builtin.zeroCells z.cells n := by simpa using hu
    unfold Builtin.zeroCells at hu2
    obtain ⟨i, hi, rfl⟩ := Array.getElem_of_mem hu2
    simp at hi ⊢
    have hz : 0 < z.cells.size := by
      rcases Nat.eq_zero_or_pos z.cells.size with h | h
      · rw [h] at hi; simp at hi
      · exact h
    have hm : i % z.cells.size < z.cells.size := Nat.mod_lt _ hz
    refine h1 _ ?_
    simp [Array.getElem!_eq_getD, hm]
  have hst := run_storeCells_at P g o t' (Builtin.zeroCells z.cells n).toList 0 cur w hg (by rw [Array.length_toList, size_zeroCells]; omega) hall
  simp only [Nat.add_zero] at hst
  obtain ⟨m, rfl⟩ : ∃ m, n = m + 1 := ⟨n - 1, by omega⟩
  simp [Builtin.clear_, run_underlying ht, hv, hst]
theorem wpList_clear_K {w : World} (hgd : o.guard = none) (x : Operand) (t e : TypeId)
    (ho : o.op = .call { callee := .builtin .clear, args := #[x], argTypes := #[t] }) (z : Value) (ht : P.underlying t = some (.slice e)) (hv : ∀ w, (zeroValue e).run P w = .ok z w) (h1 : ∀ u ∈ z.cells.toList, u.oneCell' = true)
    (g off n c : Nat) (hx : a.eval x = .slice (some ⟨g, off, none⟩) n c) (cur : List Value) (t' : TypeId) (hg : w.heap[g]? = some (.cells cur.toArray t' (0, 0))) (hn : 0 < n) (hfit : off + n * z.cells.size ≤ cur.length)
    (h : ∀ w', Hid (w'.heap[g]? = some (.cells (splice cur off (Builtin.zeroCells z.cells n).toList).toArray t' (0, 0))) → w.grownBy w' (some g) → wpList P ops Q rest (a.put o.dst (.tuple #[])) w') : wpList P ops Q (o :: rest) a w := by
  have hrun := run_clear_K (P := P) w t e o.type z ht hv h1 g off n c cur.toArray t' hg hn (by simpa using hfit)
  refine wpList_plain hgd fun _ hK => ?_
  unfold Oper.wp execOp
  simp only [ho, resolve, invoke, builtin, Sem.run_bind, Sem.run_pure, Result.andThen_ok, List.map_toArray, List.map_cons, List.map_nil, hx, hrun]
  exact hK _ _ (h _ (show _ = _ by simpa [splice] using setRow_heap w g _ _ t' _ hg) (grown_setRow _ _ _))
end
def delL (l : List Rn) (i j : Nat) : List Rn := l.take i ++ l.drop j
theorem delL_len (l : List Rn) (i j : Nat) (h : i < j) (hj : j ≤ l.length) : (delL l i j).length = i + (l.length - j) := by simp [delL]; omega
set_option maxRecDepth 20000 in
set_option maxHeartbeats 8000000 in
theorem Delete_c (base : Nat) (v : Value) (l : List Rn) (i j : Nat) (w : World) (ho : OR w base v l) (hb : base ≤ w.heap.size) (hij : i < j) (hj : j ≤ l.length) (hl : l.length ≤ 10001) :
    Calls Try.prog 44 #[v, .int .i64 i, .int .i64 j] w (InsAns base (delL l i j) w) := by
  rcases ho.2 with ⟨_, h0⟩ | ⟨g, cap, cur, e, hbg, hg, hnc, hcm, hcs, htk⟩
  · omega
  subst e
  have hgs : g < w.heap.size := (Array.getElem?_eq_some_iff.1 hg).1
  have hq : ((i : Int) == j) = false := by simp; omega
  have i0 : (0 : Int) ≤ (i : Int) := by omega
  have i1 : (i : Int) ≤ (j : Int) := by omega
  have i2 : (j : Int) ≤ (l.length : Int) := by omega
  have i3 : (l.length : Int) ≤ (cap : Int) := by omega
  have n0 : (l.length : Int) ≤ 10001 := by omega
  have i4 : (i : Int) ≤ (cap : Int) := by omega
  have hmx : cap ≤ 9223372036854775807 := by unfold maxLen at hcm; omega
  obtain ⟨cl, hcl⟩ : ∃ cl : List Value, cur = cl.toArray := ⟨cur.toList, by simp⟩
  subst hcl
  rw [List.size_toArray] at hcs
  have htk : cl.take (l.length * 2) = flatR l := htk
  have hci : ¬ (cap = i) := by omega
  obtain ⟨i0', hi0, hz0, hz1, hz2⟩ := info_parts info_run
  have hcell : ∀ j u, (flatR l)[j]? = some u → w.cell? ⟨g, j, none⟩ = some u := fun j u hu => by
    rw [cell_of_row _ _ _ _ _ _ hg]
    rw [← htk, List.getElem?_take] at hu
    split at hu
    · simpa using hu
    · cases hu
  have hdl : (flatR (l.drop j)).length = (l.length - j) * 2 := by rw [flatR_len, List.length_drop]
  have hroom : i + (l.length - j) ≤ cap := by omega
  have hrun : ∀ (A : Option Addr) (sc : Nat) (ty : TypeId), (A = some ⟨g, j * 2, none⟩ ∨ (l.length - j = 0 ∧ A = some ⟨g, 0, none⟩)) → (Builtin.append_ #[45, 45] ty #[.slice (some ⟨g, 0, none⟩) i cap, .slice A (l.length - j) sc]).run Try.prog w.drew = .ok (.slice (some ⟨g, 0, none⟩) (i + (l.length - j)) cap) (w.drew.setRow g (splice cl (i * 2) (flatR (l.drop j))).toArray) := fun A sc ty hA => by
    have hx : ∃ a, A = some a ∧ ∀ k u, (flatR (l.drop j))[k]? = some u → w.drew.cell? (a.add k) = some u := by
      rcases hA with h | ⟨h0, h⟩
      · exact ⟨_, h, fun k u hu => by
          rw [Addr.add_lit]
          exact hcell _ u (by rw [← flatR_drop, List.getElem?_drop] at hu; exact hu)⟩
      · refine ⟨_, h, fun k u hu => ?_⟩
        have : (flatR (l.drop j)) = [] := List.eq_nil_of_length_eq_zero (by omega)
        rw [this] at hu
        simp at hu
    obtain ⟨a, rfl, hsrc⟩ := hx
    have h := run_append_room (P := Try.prog) w.drew 45 ty 38 i0' Try.underlying45 hi0 g i cap cl.toArray hg a (l.length - j) sc (flatR (l.drop j)) (by rw [hz1]; exact hdl) hsrc (flatR_one _) hroom (by rw [hz1, List.size_toArray, hcs, hdl]; omega)
    rw [hz1] at h
    rw [h]
    simp [splice]
  have hg1 : (w.drew.setRow g (splice cl (i * 2) (flatR (l.drop j))).toArray).heap[g]? = some (.cells (splice cl (i * 2) (flatR (l.drop j))).toArray 38 (0, 0)) := setRow_heap w.drew g _ _ _ _ hg
  have hb1 : w.grownBy (w.drew.setRow g (splice cl (i * 2) (flatR (l.drop j))).toArray) (some g) := by
    have h := grown_setRow w.drew g (splice cl (i * 2) (flatR (l.drop j))).toArray
    exact ⟨h.os, h.tape, h.output, h.size, h.block⟩
  obtain ⟨W1, hW1⟩ : ∃ W1, w.drew.setRow g (splice cl (i * 2) (flatR (l.drop j))).toArray = W1 := ⟨_, rfl⟩
  rw [hW1] at hg1 hb1
  simp only [hW1] at hrun
  have hsl : (splice cl (i * 2) (flatR (l.drop j))).length = cap * 2 := by rw [length_splice _ _ _ (by rw [hdl, hcs]; omega), hcs]
  have hzv : ∀ w, (zeroValue 38).run Try.prog w = .ok (.agg #[.int .i64 0, .int .i64 0]) w := fun w => by kernel_rfl
  have hz1' : ∀ u ∈ (Value.agg #[.int .i64 0, .int .i64 0]).cells.toList, u.oneCell' = true := by
    intro u hu
    simp [Value.cells] at hu
    subst hu
    rfl
  have hfit : (i + (l.length - j)) * 2 + (j - i) * (Value.agg #[.int .i64 0, .int .i64 0]).cells.size ≤ (splice cl (i * 2) (flatR (l.drop j))).length := by
    rw [hsl]
    have : (Value.agg #[.int .i64 0, .int .i64 0]).cells.size = 2 := rfl
    rw [this]
    omega
  have hfin : (splice (splice cl (i * 2) (flatR (l.drop j))) ((i + (l.length - j)) * 2) (Builtin.zeroCells (Value.agg #[.int .i64 0, .int .i64 0]).cells (j - i)).toList).take ((i + (l.length - j)) * 2) = flatR (delL l i j) := by
    rw [splice_take _ _ _ _ (by rw [hsl]; omega) (Nat.le_refl _)]
    unfold delL
    rw [flatR_append]
    have hal : (flatR (l.take i)).length = i * 2 := by rw [flatR_len, List.length_take, Nat.min_eq_left (by omega)]
    have h1 : cl.take (i * 2) = flatR (l.take i) := by rw [← flatR_take, ← htk, List.take_take, Nat.min_eq_left (by omega)]
    unfold splice
    rw [h1, ← List.append_assoc, List.take_append_of_le_length (by rw [List.length_append, hal, hdl]; omega), List.take_of_length_le (by rw [List.length_append, hal, hdl]; omega)]
  have hfl2 : (splice (splice cl (i * 2) (flatR (l.drop j))) ((i + (l.length - j)) * 2) (Builtin.zeroCells (Value.agg #[.int .i64 0, .int .i64 0]).cells (j - i)).toList).length = cap * 2 := by
    have e : (Builtin.zeroCells (Value.agg #[.int .i64 0, .int .i64 0]).cells (j - i)).toList.length = (j - i) * (Value.agg #[.int .i64 0, .int .i64 0]).cells.size := by rw [Array.length_toList, size_zeroCells]
    rw [length_splice _ _ _ (by rw [e]; exact hfit), hsl]
  have hci2 : ¬ (cap = i + (l.length - j)) := by omega
  have HRUN := Lib.hid hrun
  have HG1 := Lib.hid hg1
  have HB1 := Lib.hid hb1
  have HFIT := Lib.hid hfit
  have HFIN := Lib.hid hfin
  have HFL := Lib.hid hfl2
  have HZV := Lib.hid hzv
  have HZ1 := Lib.hid hz1'
  have hs1 := hb1.size
  have k0 : (0 : Int) ≤ ((i + (l.length - j) : Nat) : Int) := by omega
  have k1 : ((i + (l.length - j) : Nat) : Int) ≤ (l.length : Int) := by omega
  have k2 : ((i + (l.length - j) : Nat) : Int) ≤ (cap : Int) := by omega
  have hLen := delL_len l i j hij hj
  have HLEN := Lib.hid hLen
  clear hW1 hg1 hb1 hrun hsl hfit hfin hfl2 hzv hz1' hg hcell htk ho hcs hi0 hz0 hz1 hz2 hdl hLen
  rcases Nat.lt_or_ge j cap with hcj | hcj
  rotate_left
  · obtain rfl : cap = j := by omega
    obtain ⟨m, hm⟩ : ∃ m, i + (l.length - cap) = m := ⟨_, rfl⟩
    rw [hm] at HRUN HFIT HFIN HFL HLEN k0 k1 k2 hci2
    have HM := Lib.hid hm
    clear hm
    go_enter Try.func44, Try.ntmps44
    go_wp2_with fail
    go_still_tail 6, (by kernel_rfl)
    have hrun0 := fun ty => HRUN.out (some ⟨g, 0, none⟩) 0 ty (.inr ⟨by omega, rfl⟩)
    have h0 : l.length - cap = 0 := by omega
    simp only [h0] at hrun0
    have HRUN0 := Lib.hid hrun0
    clear hrun0 h0
    refine Go.Lib.wpList_append_run _ rfl (.tmp 22) (.tmp 25) _ _ rfl _ _ rfl rfl _ _ (HRUN0.out _) ?_
    go_wp2_with (refine wpList_clear_K rfl (.tmp 31) 45 38 rfl _ Try.underlying45 HZV.out HZ1.out g (m * 2) _ _ rfl _ 38 HG1.out (by have := HM.out; omega) (by have h := HFIT.out; rw [show cap - i = l.length - m by have := HM.out; omega] at h; exact h) ?_; intro w5 hg5 hb5)
    have hb5' : Below base w w5 := ((Below.refl _ _).grown HB1.out hb (fun k hk => by cases hk; exact hbg)).grown hb5 (by omega) (fun k hk => by cases hk; exact hbg)
    have hor : OR w5 base (.slice (some ⟨g, 0, none⟩) m cap) (delL l i cap) := by
      have hjm : cap - i = l.length - m := by have := HM.out; omega
      have h1 := HFIN.out
      have h2 := HFL.out
      rw [hjm] at h1 h2
      exact OR.of_block hg5.out hbg HLEN.out.symm (by omega) hmx h2 h1
    have HB5 := Lib.hid hb5'
    have HOR := Lib.hid hor
    clear hb5' hor hb5 hg5
    go_wp2_with fail
    go_ret
    exact ⟨_, rfl, HOR.out, HB5.out⟩
  · have hcj2 : ¬ (cap = j) := by omega
    obtain ⟨m, hm⟩ : ∃ m, i + (l.length - j) = m := ⟨_, rfl⟩
    rw [hm] at HRUN HFIT HFIN HFL HLEN k0 k1 k2 hci2
    have HM := Lib.hid hm
    clear hm
    go_enter Try.func44, Try.ntmps44
    go_wp2_with fail
    go_still_tail 6, (by kernel_rfl)
    refine Go.Lib.wpList_append_run _ rfl (.tmp 22) (.tmp 25) _ _ rfl _ _ rfl rfl _ _ (HRUN.out _ _ _ (.inl rfl)) ?_
    go_wp2_with (refine wpList_clear_K rfl (.tmp 31) 45 38 rfl _ Try.underlying45 HZV.out HZ1.out g (m * 2) _ _ rfl _ 38 HG1.out (by have := HM.out; omega) (by have h := HFIT.out; rw [show j - i = l.length - m by have := HM.out; omega] at h; exact h) ?_; intro w5 hg5 hb5)
    have hb5' : Below base w w5 := ((Below.refl _ _).grown HB1.out hb (fun k hk => by cases hk; exact hbg)).grown hb5 (by omega) (fun k hk => by cases hk; exact hbg)
    have hor : OR w5 base (.slice (some ⟨g, 0, none⟩) m cap) (delL l i j) := by
      have hjm : j - i = l.length - m := by have := HM.out; omega
      have h1 := HFIN.out
      have h2 := HFL.out
      rw [hjm] at h1 h2
      exact OR.of_block hg5.out hbg HLEN.out.symm (by omega) hmx h2 h1
    have HB5 := Lib.hid hb5'
    have HOR := Lib.hid hor
    clear hb5' hor hb5 hg5
    go_wp2_with fail
    go_ret
    exact ⟨_, rfl, HOR.out, HB5.out⟩
end Go.Proofs.Ytdfgaomlahpblaa.F
