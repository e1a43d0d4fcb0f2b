/- Rows of runs, one behind the other. -/
import Derived.Test.YtdfgaomlahpblaaEd
set_option linter.unusedVariables false
set_option linter.unusedSimpArgs false
namespace Go.Proofs.Ytdfgaomlahpblaa.F
open Go.RowKit Go.Proofs.YtdfgaomlahpblaaW.PrintWords

section
variable {ops : Array Oper} {rest : List Oper} {o : Oper} {a : Act} {Q : Exit → Act → World → Prop} {K : Act → World → Prop}
theorem run_append_RU {W : World} (base : Nat) (ty : TypeId) (v : Value) (l ys : List Rn) (A : Option Addr) (c : Nat)
    (HO : OR W base v l) (HR : RU W A ys) (hbase : base ≤ W.heap.size) (hl : l.length + ys.length ≤ 100000) :
    ∃ v1 w1, (Builtin.append_ #[45, 45] ty #[v, .slice A ys.length c]).run Try.prog W = .ok v1 w1 ∧ OR w1 base v1 (l ++ ys) ∧ W.grownBy w1 v.ownBlock ∧ (v1 = .slice none 0 0 ↔ v = .slice none 0 0 ∧ ys = []) := by
  obtain ⟨i0, hi, hz0, hz1, hz2⟩ := info_parts info_run
  have HO' : W.ownsRow base 38 2 v l.length (flatR l) := HO
  have ht := Try.underlying45
  cases A with
  | none =>
    have h0 : ys = [] := by
      cases ys with
      | nil => rfl
      | cons y ys => obtain ⟨g, o, h, _⟩ := HR.2 (by simp); cases h
    subst h0
    refine ⟨v, W, ?_, by simpa using HO, World.grownBy.refl W _, by simp⟩
    rcases HO'.2 with ⟨rfl, hn⟩ | ⟨g, cap, cur, rfl, _, _, hnc, _⟩
    · simp [Builtin.append_, run_underlying ht, sizeOf, typeInfo, hi, Builtin.lenOf, Builtin.firstCells]
    · simp [Builtin.append_, run_underlying ht, sizeOf, typeInfo, hi, Builtin.lenOf, Builtin.firstCells, hnc, storeCells]
  | some ad =>
    have hcells : ∀ j u, (flatR ys)[j]? = some u → W.cell? (ad.add j) = some u := by
      intro j u hu
      have hp : 0 < ys.length := by
        rcases Nat.eq_zero_or_pos ys.length with h | h
        · rw [List.eq_nil_of_length_eq_zero h] at hu; simp [flatR] at hu
        · exact h
      obtain ⟨g, o, e, hg, hc⟩ := HR.2 hp
      cases e
      rw [Addr.add_lit]
      exact hc j u hu
    obtain ⟨v1, w1, hr, h2, h3, h4⟩ := run_append_own (P := Try.prog) W base 45 ty 38 i0 _ 2 16 ht hi hz0 hz1 hz2 rfl (by omega) v l.length (flatR l) HO' ad ys.length c (flatR ys) (flatR_len ys) hcells
      (flatR_one ys) (by simp only [maxLen]; omega) (by omega) hbase
    exact ⟨v1, w1, hr, by unfold OR; rw [List.length_append, flatR_append]; exact h2, h3, h4.trans ⟨fun ⟨h1, h2⟩ => ⟨h1, List.eq_nil_of_length_eq_zero h2⟩, fun ⟨h1, h2⟩ => ⟨h1, by rw [h2]; rfl⟩⟩⟩
theorem append_RU {W : World} (base : Nat) (hgd : o.guard = none) (s x : Operand)
    (ho : o.op = .call { callee := .builtin .append, args := #[s, x], argTypes := #[45, 45] })
    (v : Value) (l ys : List Rn) (A : Option Addr) (c : Nat) (hs : a.eval s = v) (hx : a.eval x = .slice A ys.length c)
    (HO : OR W base v l) (HR : RU W A ys) (hbase : base ≤ W.heap.size) (hl : l.length + ys.length ≤ 100000)
    (h : ∀ v1 w1, OR w1 base v1 (l ++ ys) → W.grownBy w1 v.ownBlock → (v1 = .slice none 0 0 ↔ v = .slice none 0 0 ∧ ys = []) → wpList Try.prog ops Q rest (a.put o.dst v1) w1) :
    wpList Try.prog ops Q (o :: rest) a W := by
  obtain ⟨v1, w1, hr, h1, h2, h3⟩ := run_append_RU base o.type v l ys A c HO HR hbase hl
  exact Go.Lib.wpList_append_run W hgd s x _ _ ho _ _ hs hx v1 w1 hr (h v1 w1 h1 h2 h3)
theorem step_append_RU {W : World} {E : Prop} (base : Nat) (hgd : o.guard = none) (s x : Operand)
    (ho : o.op = .call { callee := .builtin .append, args := #[s, x], argTypes := #[45, 45] })
    (v : Value) (l ys : List Rn) (A : Option Addr) (c : Nat) (hs : a.eval s = v) (hx : a.eval x = .slice A ys.length c)
    (HO : OR W base v l) (HR : RU W A ys) (hbase : base ≤ W.heap.size) (hl : l.length + ys.length ≤ 100000)
    (h : ∀ v1 w1, OR w1 base v1 (l ++ ys) → W.grownBy w1 v.ownBlock → (v1 = .slice none 0 0 ↔ v = .slice none 0 0 ∧ ys = []) → K (a.put o.dst v1) w1) :
    if Region.wanted o (yielded ops a.tmps) = true then Oper.wp Try.prog o a W K Q else E := by
  have hw : Region.wanted o (yielded ops a.tmps) = true := by simp [Region.wanted, hgd]
  rw [if_pos hw]
  obtain ⟨v1, w1, hr, h1, h2, h3⟩ := run_append_RU base o.type v l ys A c HO HR hbase hl
  exact Go.Lib.wp_append_run W s x _ _ ho _ _ hs hx v1 w1 hr (h v1 w1 h1 h2 h3)
end
set_option maxRecDepth 20000 in
set_option maxHeartbeats 4000000 in
theorem Grow_c (n : Nat) (w : World) (hn : n ≤ 100000) :
    Calls Try.prog 48 #[.slice none 0 0, .int .i64 n] w fun e w' => ∃ v, e = .returned v ∧ OR w' w.heap.size v [] ∧ (n = 0 → v = .slice none 0 0) ∧ Below w.heap.size w w' := by
  obtain ⟨i0, hi0, hz0, hz1, hz2⟩ := info_parts info_run
  by_cases h0 : n = 0
  · subst h0
    go_enter Try.func48, Try.ntmps48
    go_wp2_with fail
    go_ret
    exact ⟨_, rfl, OR.nil _ _, fun _ => rfl, Below.refl _ _⟩
  · have d0 : decide ((n : Int) < 0) = false := decide_eq_false (by omega)
    have d1 : decide ((0 : Int) < n) = true := decide_eq_true (by omega)
    have d2 : decide (0 < n) = true := decide_eq_true (by omega)
    have hrun := fun ty => Go.Lib.run_append_nil_zeros w 45 3 ty 38 i0 _ .i64 .i64 Try.underlying45 Try.underlying3 hi0 hz0 n (by omega) (by rw [hz1]; omega) (by omega) (by rw [hz2]; omega)
    have hge := grownCap_ge w n 0 38
    have hle := grownCap_le_maxLen w n 0 38 (by unfold maxLen; omega)
    obtain ⟨G, hG⟩ : ∃ G, grownCap w n 0 38 = G := ⟨_, rfl⟩
    rw [hG] at hge hle
    simp only [hG] at hrun
    obtain ⟨cur, hcur⟩ : ∃ cur, Builtin.zeroCells (Value.agg #[.int .i64 0, .int .i64 0]).cells n ++ Builtin.zeroCells (Value.agg #[.int .i64 0, .int .i64 0]).cells (G - n) = cur := ⟨_, rfl⟩
    have hcs : cur.size = G * 2 := by
      rw [← hcur, Array.size_append, size_zeroCells, size_zeroCells]
      have : (Value.agg #[.int .i64 0, .int .i64 0]).cells.size = 2 := rfl
      rw [this]
      omega
    rw [hcur] at hrun
    obtain ⟨W2, hW2⟩ : ∃ W2, w.drew.alloc (.cells cur 38) = W2 := ⟨_, rfl⟩
    have hb2 : Below w.heap.size w W2 := by rw [← hW2]; exact (Below.refl _ _).drew.alloc (Nat.le_refl _) _
    have ho2 : OR W2 w.heap.size (.slice (some ⟨w.heap.size, 0, none⟩) 0 G) [] := by
      refine ⟨rfl, .inr ⟨w.heap.size, G, cur, rfl, Nat.le_refl _, ?_, by simp, hle, hcs, by simp [flatR]⟩⟩
      rw [← hW2]
      exact heap_alloc_new w.drew _
    rw [hW2] at hrun
    have HB2 := Lib.hid hb2
    have HO2 := Lib.hid ho2
    have HN := Lib.hid h0
    have g0 : (0 : Int) ≤ (G : Int) := by omega
    clear hb2 ho2 hG hcur hcs hW2 hge hle h0
    go_enter Try.func48, Try.ntmps48
    go_wp2_with (at_builtin; refine Go.Lib.wpList_append_run _ rfl _ _ _ _ rfl _ _ rfl rfl _ _ (hrun _) ?_)
    go_ret
    exact ⟨_, rfl, HO2.out, fun h => absurd h HN.out, HB2.out⟩
/-- Slices of runs that are handed in one slice. -/
abbrev Sr := Option Addr × Nat × List Rn
def srv (x : Sr) : Value := .slice x.1 x.2.2.length x.2.1
def srs (l : List Sr) : List Rn := (l.map (·.2.2)).flatten
theorem srs_append (a b : List Sr) : srs (a ++ b) = srs a ++ srs b := by simp [srs]
theorem srs_take (l : List Sr) (i : Nat) (h : i < l.length) : srs (l.take (i + 1)) = srs (l.take i) ++ l[i].2.2 := by
  rw [List.take_succ_eq_append_getElem h, srs_append]
  congr 1
  simp [srs]
theorem srs_le (l : List Sr) (i : Nat) : (srs (l.take i)).length ≤ (srs l).length := by
  have h := srs_append (l.take i) (l.drop i)
  rw [List.take_append_drop] at h
  rw [h, List.length_append]
  omega
set_option maxRecDepth 20000 in
set_option maxHeartbeats 4000000 in
theorem Concat_c (B c : Nat) (sl : List Sr) (w : World) (hB : B < w.heap.size) (hc : ∀ i (h : i < sl.length), w.cell? ⟨B, i, none⟩ = some (srv sl[i])) (hr : ∀ x ∈ sl, RU w x.1 x.2.2) (hl : (srs sl).length ≤ 100000) (hn : sl.length ≤ 100) :
    Calls Try.prog 41 #[.slice (some ⟨B, 0, none⟩) sl.length c] w fun e w' => ∃ v, e = .returned v ∧ OR w' w.heap.size v (srs sl) ∧ (srs sl = [] → v = .slice none 0 0) ∧ Below w.heap.size w w' := by
  have HC := Lib.hid hc
  have HR := Lib.hid hr
  have n0 : (sl.length : Int) ≤ 100 := by omega
  clear hc hr
  go_enter Try.func41, Try.ntmps41
  go_wp2_with fail
  go_loop [3, 11] (fun vs vi => ∃ i : Nat, i ≤ sl.length ∧ vi = .int .i64 i ∧ vs = .int .i64 ((srs (sl.take i)).length : Nat)) (fun _ vi => sl.length - (intOf vi).toNat)
  case atStart => exact ⟨0, by omega, rfl, rfl⟩
  case round =>
    obtain ⟨i, hi, rfl, rfl⟩ := hrel
    by_cases hlt : i < sl.length
    · have hd : decide ((i : Int) < sl.length) = true := decide_eq_true (by omega)
      have i0 : (0 : Int) ≤ (i : Int) := by omega
      have i1 : (i : Int) < (sl.length : Int) := by omega
      have hci := HC.out i hlt
      have hst := srs_take sl i hlt
      have hle := srs_le sl (i + 1)
      have hle0 := srs_le sl i
      obtain ⟨⟨xa, xc, xl⟩, hx⟩ : ∃ x, sl[i] = x := ⟨_, rfl⟩
      rw [hx] at hci hst
      have hst2 : (srs (sl.take (i + 1))).length = (srs (sl.take i)).length + xl.length := by rw [hst, List.length_append]
      unfold srv at hci
      dsimp only at hci
      obtain ⟨S, hS⟩ : ∃ S, (srs (sl.take i)).length = S := ⟨_, rfl⟩
      rw [hS] at hst2 hle0 ⊢
      have h1 : (S : Int) + xl.length ≤ 100000 := by omega
      have h2 : (0 : Int) ≤ (S : Int) + xl.length := by omega
      have h3 : decide ((S : Int) + xl.length < 0) = false := decide_eq_false (by omega)
      have HST := Lib.hid hst2
      clear hst hx hS hst2 hle hle0 hl
      go_wp2_with fail
      go_round
      case rel => exact ⟨i + 1, by omega, by go_num, by rw [HST.out]; go_num⟩
      case measure => simp [intOf]; omega
    · have hd : decide ((i : Int) < sl.length) = false := decide_eq_false (by omega)
      obtain rfl : i = sl.length := by omega
      rw [List.take_length]
      obtain ⟨S, hS⟩ : ∃ S, (srs sl).length = S := ⟨_, rfl⟩
      rw [hS] at hl ⊢
      have HS := Lib.hid hS
      clear hS
      go_wp2_with fail
      refine (Grow_c S w hl).mono ?_
      rintro e w1 ⟨v1, rfl, ho1, hv1, hb1⟩
      have HO1 := Lib.hid ho1
      have HV1 := Lib.hid hv1
      have HB1 := Lib.hid hb1
      clear ho1 hv1 hb1
      go_wp2_with fail
      go_loopw [6, 27] (fun vo vi W => ∃ i : Nat, i ≤ sl.length ∧ vi = .int .i64 i ∧ OR W w.heap.size vo (srs (sl.take i)) ∧ (srs sl = [] → vo = .slice none 0 0) ∧ Below w.heap.size w W) (fun _ vi _ => sl.length - (intOf vi).toNat)
      case atStart => exact ⟨0, by omega, rfl, HO1.out, fun h => HV1.out (by rw [← HS.out, h]; rfl), HB1.out⟩
      case round =>
        obtain ⟨i, hi, rfl, ho, hv, hb⟩ := hrel
        have HO := Lib.hid ho
        have HV := Lib.hid hv
        have HB := Lib.hid hb
        have hsz := hb.size
        clear ho hv hb
        by_cases hlt : i < sl.length
        · have hd : decide ((i : Int) < sl.length) = true := decide_eq_true (by omega)
          have i0 : (0 : Int) ≤ (i : Int) := by omega
          have i1 : (i : Int) < (sl.length : Int) := by omega
          have hci : wr.cell? ⟨B, i, none⟩ = some (srv sl[i]) := (HB.out.cell (p := ⟨B, i, none⟩) hB).trans (HC.out i hlt)
          have hri := (HR.out _ (List.getElem_mem hlt)).below HB.out
          have hst := srs_take sl i hlt
          have hle := srs_le sl (i + 1)
          have hem : srs sl = [] → sl[i].2.2 = [] := fun h => by
            have h1 := srs_le sl (i + 1)
            rw [h, srs_take sl i hlt] at h1
            simp at h1
            exact h1.2
          obtain ⟨⟨xa, xc, xl⟩, hx⟩ : ∃ x, sl[i] = x := ⟨_, rfl⟩
          rw [hx] at hci hst hri hem
          rw [hst, List.length_append, HS.out] at hle
          unfold srv at hci
          dsimp only at hci hri hem hle
          have HRI := Lib.hid hri
          have HST := Lib.hid hst
          have HEM := Lib.hid hem
          clear hx hri hst hem
          obtain ⟨wo, rfl⟩ : ∃ wo : World, wo = wr := ⟨_, rfl⟩
          go_wp2_with (at_builtin; refine append_RU w.heap.size rfl _ _ rfl _ _ xl xa xc rfl rfl HO.out HRI.out hsz (by omega) ?_; intro v5 w5 ho5 hg5 hv5)
          have hb5 : Below w.heap.size w w5 := HB.out.grown hg5 hsz (fun k hk => own_base HO.out k hk)
          have HO5 := Lib.hid ho5
          have HV5 := Lib.hid hv5
          have HB5 := Lib.hid hb5
          clear ho5 hg5 hv5 hb5
          go_wp2_with fail
          exact ⟨⟨i + 1, by omega, by go_num, by rw [HST.out]; exact HO5.out, fun h => HV5.out.2 ⟨HV.out h, HEM.out h⟩, HB5.out⟩, by simp [intOf]; omega⟩
        · have hd : decide ((i : Int) < sl.length) = false := decide_eq_false (by omega)
          obtain rfl : i = sl.length := by omega
          have ho := HO.out
          rw [List.take_length] at ho
          have HO2 := Lib.hid ho
          clear ho HO
          go_wp2_with fail
          go_ret
          exact ⟨_, rfl, HO2.out, HV.out, HB.out⟩
end Go.Proofs.Ytdfgaomlahpblaa.F
