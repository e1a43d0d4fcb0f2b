/- Rows of runs: copied, cloned, grown. -/
import Derived.Test.YtdfgaomlahpblaaEc
import Derived.Laws.CopyOwn
import Derived.Lib.AppendZeros
import Derived.Lib.AppendZerosOnto
import Derived.Lib.Overlaps
import Derived.Maps.AppendAt
set_option linter.unusedVariables false
set_option linter.unusedSimpArgs false
namespace Go.Proofs.Ytdfgaomlahpblaa.F
open Go.RowKit Go.Proofs.YtdfgaomlahpblaaW.PrintWords

section
variable {P : Program}
theorem run_copy_K (w : World) (dT sT ty elem : TypeId) (k g o dLen dCap : Nat) (a : Addr) (sLen sCap : Nat) (cur : Array Value) (t : TypeId) (cs : List Value)
    (hu : P.underlying dT = some (.slice elem)) (hs : (P.info? elem).map (·.size) = some k)
    (hg : w.heap[g]? = some (.cells cur t (0, 0))) (hn : cs.length = Nat.min sLen dLen * k)
    (hsrc : ∀ j v, cs[j]? = some v → w.cell? (a.add j) = some v) (hfit : o + cs.length ≤ cur.size) (h1 : ∀ v ∈ cs, v.oneCell' = true) :
    (Builtin.copy_ #[dT, sT] ty #[.slice (some ⟨g, o, none⟩) dLen dCap, .slice (some a) sLen sCap]).run P w =
      .ok (goInt (Nat.min sLen dLen)) (w.setRow g (cur.toList.take o ++ cs ++ cur.toList.drop (o + cs.length)).toArray) := by
  have hl := run_loadCells_list (P := P) w a cs hsrc
  have hst := run_storeCells_at P g o t cs 0 cur w hg (by simpa using hfit) h1
  cases hq : P.info? elem with
  | none => simp [hq] at hs
  | some i =>
    have hi : i.size = k := by simpa [hq] using hs
    simp [Builtin.copy_, run_underlying hu, Builtin.lenOf, Builtin.firstCells, sizeOf, typeInfo, hq, hi, ← hn, hl, hst]
theorem grown_setRow (w : World) (g : Nat) (cs : Array Value) : w.grownBy (w.setRow g cs) (some g) := ⟨rfl, rfl, rfl, by simp [World.setRow], fun k hk hne => setRow_other w g k cs (fun e => hne (by rw [e]))⟩
variable {ops : Array Oper} {rest : List Oper} {o : Oper} {a : Act} {Q : Exit → Act → World → Prop} {K : Act → World → Prop}
theorem wp_copy_K {w : World} (d s : Operand) (dT sT : TypeId)
    (ho : o.op = .call { callee := .builtin .copy, args := #[d, s], argTypes := #[dT, sT] }) (elem : TypeId) (k : Nat) (hu : P.underlying dT = some (.slice elem)) (hsz : (P.info? elem).map (·.size) = some k)
    (g off dLen dCap sg so sLen sCap : Nat) (hd : a.eval d = .slice (some ⟨g, off, none⟩) dLen dCap) (hs : a.eval s = .slice (some ⟨sg, so, none⟩) sLen sCap)
    (cur : List Value) (t : TypeId) (hg : w.heap[g]? = some (.cells cur.toArray t (0, 0))) (cs : List Value) (hn : cs.length = Nat.min sLen dLen * k)
    (hsrc : ∀ j v, cs[j]? = some v → w.cell? ⟨sg, so + j, none⟩ = some v) (hfit : off + cs.length ≤ cur.length) (h1 : ∀ v ∈ cs, v.oneCell' = true)
    (h : ∀ w', Hid (w'.heap[g]? = some (.cells (splice cur off cs).toArray t (0, 0))) → w.grownBy w' (some g) → K (a.put o.dst (goInt (Nat.min sLen dLen))) w') : Oper.wp P o a w K Q := by
  have hrun := run_copy_K (P := P) w dT sT o.type elem k g off dLen dCap ⟨sg, so, none⟩ sLen sCap cur.toArray t cs hu hsz hg hn (fun j v hj => by rw [Addr.add_lit]; exact hsrc j v hj) (by simpa using hfit) h1
  unfold Oper.wp execOp
  simp only [ho, resolve, invoke, builtin, Sem.run_bind, Sem.run_pure, Result.andThen_ok, List.map_toArray, List.map_cons, List.map_nil, hd, hs, hrun]
  exact h _ (show _ = _ by simpa [splice] using setRow_heap w g _ _ t _ hg) (grown_setRow _ _ _)
theorem wpList_copy_K {w : World} (hgd : o.guard = none) (d s : Operand) (dT sT : TypeId)
    (ho : o.op = .call { callee := .builtin .copy, args := #[d, s], argTypes := #[dT, sT] }) (elem : TypeId) (k : Nat) (hu : P.underlying dT = some (.slice elem)) (hsz : (P.info? elem).map (·.size) = some k)
    (g off dLen dCap sg so sLen sCap : Nat) (hd : a.eval d = .slice (some ⟨g, off, none⟩) dLen dCap) (hs : a.eval s = .slice (some ⟨sg, so, none⟩) sLen sCap)
    (cur : List Value) (t : TypeId) (hg : w.heap[g]? = some (.cells cur.toArray t (0, 0))) (cs : List Value) (hn : cs.length = Nat.min sLen dLen * k)
    (hsrc : ∀ j v, cs[j]? = some v → w.cell? ⟨sg, so + j, none⟩ = some v) (hfit : off + cs.length ≤ cur.length) (h1 : ∀ v ∈ cs, v.oneCell' = true)
    (h : ∀ w', Hid (w'.heap[g]? = some (.cells (splice cur off cs).toArray t (0, 0))) → w.grownBy w' (some g) → wpList P ops Q rest (a.put o.dst (goInt (Nat.min sLen dLen))) w') : wpList P ops Q (o :: rest) a w :=
  wpList_plain hgd fun _ hK => wp_copy_K d s dT sT ho elem k hu hsz g off dLen dCap sg so sLen sCap hd hs cur t hg cs hn hsrc hfit h1 (fun w' h2 h3 => hK _ _ (h w' h2 h3))
theorem step_copy_K {w : World} {E : Prop} (hgd : o.guard = none) (d s : Operand) (dT sT : TypeId)
    (ho : o.op = .call { callee := .builtin .copy, args := #[d, s], argTypes := #[dT, sT] }) (elem : TypeId) (k : Nat) (hu : P.underlying dT = some (.slice elem)) (hsz : (P.info? elem).map (·.size) = some k)
    (g off dLen dCap sg so sLen sCap : Nat) (hd : a.eval d = .slice (some ⟨g, off, none⟩) dLen dCap) (hs : a.eval s = .slice (some ⟨sg, so, none⟩) sLen sCap)
    (cur : List Value) (t : TypeId) (hg : w.heap[g]? = some (.cells cur.toArray t (0, 0))) (cs : List Value) (hn : cs.length = Nat.min sLen dLen * k)
    (hsrc : ∀ j v, cs[j]? = some v → w.cell? ⟨sg, so + j, none⟩ = some v) (hfit : off + cs.length ≤ cur.length) (h1 : ∀ v ∈ cs, v.oneCell' = true)
    (h : ∀ w', Hid (w'.heap[g]? = some (.cells (splice cur off cs).toArray t (0, 0))) → w.grownBy w' (some g) → K (a.put o.dst (goInt (Nat.min sLen dLen))) w') :
    if Region.wanted o (yielded ops a.tmps) = true then Oper.wp P o a w K Q else E := by
  have hw : Region.wanted o (yielded ops a.tmps) = true := by simp [Region.wanted, hgd]
  rw [if_pos hw]
  exact wp_copy_K d s dT sT ho elem k hu hsz g off dLen dCap sg so sLen sCap hd hs cur t hg cs hn hsrc hfit h1 h
end
section
variable {α : Type}
theorem splice_at (p q cs : List α) : splice (p ++ q) p.length cs = p ++ (cs ++ q.drop cs.length) := by
  unfold splice
  rw [List.take_left, List.drop_append, List.drop_of_length_le (by omega)]
  simp
theorem splice_drop (X cs : List α) (o : Nat) (h : o ≤ X.length) : (splice X o cs).drop o = cs ++ X.drop (o + cs.length) := by
  unfold splice
  rw [List.drop_append, List.drop_of_length_le (by simp; omega)]
  simp [Nat.min_eq_left h]
theorem splice_take (X cs : List α) (o m : Nat) (h : o ≤ X.length) (hm : m ≤ o) : (splice X o cs).take m = X.take m := by
  unfold splice
  rw [List.take_append_of_le_length (by simp; omega), List.take_take, Nat.min_eq_left hm]
/-- b moved up by rc's length, and rc laid ahead of it. -/
theorem shifted (X a b rc : List α) (h1 : X.take a.length = a) (h2 : a.length + rc.length + b.length ≤ X.length) : (splice (splice X (a.length + rc.length) b) a.length rc).take (a.length + rc.length + b.length) = a ++ (rc ++ b) := by
  have e1 : (splice X (a.length + rc.length) b).take a.length = a := by rw [splice_take _ _ _ _ (by omega) (by omega), h1]
  have e2 : (splice X (a.length + rc.length) b).drop (a.length + rc.length) = b ++ X.drop (a.length + rc.length + b.length) := splice_drop _ _ _ (by omega)
  rw [show splice (splice X (a.length + rc.length) b) a.length rc = (splice X (a.length + rc.length) b).take a.length ++ (rc ++ (splice X (a.length + rc.length) b).drop (a.length + rc.length)) from rfl, e1, e2]
  rw [show a ++ (rc ++ (b ++ X.drop (a.length + rc.length + b.length))) = (a ++ (rc ++ b)) ++ X.drop (a.length + rc.length + b.length) by simp]
  rw [List.take_append_of_le_length (by simp; omega), List.take_of_length_le (by simp; omega)]
/-- rc, then b, laid behind a. -/
theorem filled (a z b rc : List α) (h2 : rc.length + b.length ≤ z.length) : (splice (splice (a ++ z) a.length rc) (a.length + rc.length) b).take (a.length + rc.length + b.length) = a ++ (rc ++ b) := by
  rw [splice_at]
  have h := splice_at (a ++ rc) (z.drop rc.length) b
  rw [List.length_append] at h
  rw [show a ++ (rc ++ z.drop rc.length) = (a ++ rc) ++ z.drop rc.length by simp, h]
  rw [show (a ++ rc) ++ (b ++ (z.drop rc.length).drop b.length) = (a ++ (rc ++ b)) ++ (z.drop rc.length).drop b.length by simp]
  rw [List.take_append_of_le_length (by simp; omega), List.take_of_length_le (by simp; omega)]
end
theorem size_run : (Try.prog.info? 38).map (·.size) = some 2 := by kernel_rfl
theorem qnil_run : ∀ (w : World) (a : Option Addr) (n c : Nat), Sem.run Try.prog (binOp BinOp.eql 45 (.slice a n c) (.slice none 0 0)) w = Result.ok (.bool a.isNone) w := fun w a n c => Go.Lib.run_eql_slice_nil w 45 38 a n c 0 0 Try.underlying45
theorem OR.of_block {W : World} {base g cap n : Nat} {l : List Rn} {cur : List Value} (hg : W.heap[g]? = some (.cells cur.toArray 38 (0, 0))) (hb : base ≤ g) (hn : n = l.length) (hc : n ≤ cap) (hm : cap ≤ 9223372036854775807) (hs : cur.length = cap * 2) (ht : cur.take (n * 2) = flatR l) : OR W base (.slice (some ⟨g, 0, none⟩) n cap) l := by
  subst hn
  exact ⟨flatR_len l, .inr ⟨g, cap, cur.toArray, rfl, hb, hg, hc, hm, by simpa using hs, by simpa using ht⟩⟩
set_option maxRecDepth 20000 in
set_option maxHeartbeats 4000000 in
theorem Clone_f (A : Option Addr) (c : Nat) (l : List Rn) (w : World) (hr : RU w A l) (hA : A = none ↔ l = []) (hl : l.length ≤ 100000) :
    Calls Try.prog 33 #[.slice A l.length c] w fun e w' => ∃ v, e = .returned v ∧ OR w' w.heap.size v l ∧ Below w.heap.size w w' ∧ (l = [] → v = .slice none 0 0) := by
  have hmx := hr.max
  have qN := qnil_run
  cases A with
  | none =>
    have h0 := hA.1 rfl
    subst h0
    go_enter Try.func33, Try.ntmps33
    go_wp2_with fail
    go_ret
    exact ⟨.slice none 0 0, rfl, OR.nil _ _, Below.refl _ _, by first | rfl | exact fun _ => rfl⟩
  | some ad =>
    have hne : l ≠ [] := fun e => by have := hA.2 e; cases this
    have hp : 0 < l.length := List.length_pos_iff.2 hne
    obtain ⟨g, o, e, hg, hc⟩ := hr.2 hp
    cases e
    obtain ⟨i0, hi0, hz0, hz1, hz2⟩ := info_parts info_run
    have hbE : Below w.heap.size w (w.alloc (.cells #[] 38)) := (Below.refl _ _).alloc (Nat.le_refl _) _
    have hE : (w.alloc (.cells #[] 38)).ownsRow w.heap.size 38 2 (.slice (some ⟨w.heap.size, 0, none⟩) 0 0) 0 [] := by
      have h := World.ownsRow_lit (base := w.heap.size) (e := 38) (size := 2) w #[] 0 (by simp) (by simp [maxLen]) (by simp)
      simpa using h
    have hsrc : ∀ j v, (flatR l)[j]? = some v → (w.alloc (.cells #[] 38)).cell? ((⟨g, o, none⟩ : Addr).add j) = some v := fun j v hv => by
      rw [Addr.add_lit, hbE.cell (p := ⟨g, o + j, none⟩) hg]
      exact hc j v hv
    have HE := Lib.hid hE
    have HBE := Lib.hid hbE
    have HSRC := Lib.hid hsrc
    have HLEN := Lib.hid (flatR_len l)
    have HONE := Lib.hid (flatR_one l)
    obtain ⟨F, hF⟩ : ∃ F, flatR l = F := ⟨_, rfl⟩
    rw [hF] at HSRC HLEN HONE
    have HF := Lib.hid hF
    have HNE := Lib.hid hne
    clear hE hbE hsrc hF hc hne hA hr
    go_enter Try.func33, Try.ntmps33
    go_wp2_with (at_builtin; refine wpList_append_own_at (w.alloc (.cells #[] 38)) rfl (.tmp 5) (.tmp 6) 45 rfl w.heap.size 38 i0 (.agg #[.int .i64 0, .int .i64 0]) 2 16 Try.underlying45 hi0 hz0 hz1 hz2 rfl (by decide) (.slice (some ⟨w.heap.size, 0, none⟩) 0 0) 0 [] rfl HE.out ⟨g, o, none⟩ l.length c F rfl HLEN.out HSRC.out HONE.out (by simp only [maxLen]; omega) (by omega) (by simp) ?_; intro v3 w3 ho3 hg3 _ _; rw [Nat.zero_add, List.nil_append] at ho3)
    have hb3 : Below w.heap.size w w3 := HBE.out.grown hg3 (by simp) (fun j ej => own_base HE.out j ej)
    have hor : OR w3 w.heap.size v3 l := by unfold OR; rw [HF.out]; exact ho3
    have HOR := Lib.hid hor
    have HB3 := Lib.hid hb3
    clear hb3 hor ho3 hg3
    go_wp2_with fail
    go_ret
    exact ⟨_, rfl, HOR.out, HB3.out, fun h => absurd h HNE.out⟩
theorem Clone_c (A : Option Addr) (c : Nat) (l : List Rn) (w : World) (hr : RU w A l) (hA : A = none ↔ l = []) (hl : l.length ≤ 100000) :
    Calls Try.prog 33 #[.slice A l.length c] w fun e w' => ∃ v, e = .returned v ∧ OR w' w.heap.size v l ∧ Below w.heap.size w w' :=
  (Clone_f A c l w hr hA hl).mono fun _ _ ⟨v, h1, h2, h3, _⟩ => ⟨v, h1, h2, h3⟩
end Go.Proofs.Ytdfgaomlahpblaa.F
