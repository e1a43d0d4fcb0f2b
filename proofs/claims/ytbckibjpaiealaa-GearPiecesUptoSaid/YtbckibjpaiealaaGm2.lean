/- Rows of chunks joined; an ended cutter. -/
import Derived.Test.YtbckibjpaiealaaGm0
set_option linter.unusedVariables false
set_option linter.unusedSimpArgs false
namespace Go.Proofs.Ytbckibjpaiealaa.F
open Go.RowKit Go.Proofs.YtbckibjpaiealaaW.PrintWords

theorem EndG_ended (W : World) (B : Nat) (mn av mx : Nat) (tb : List Nat) (hv : Value) (h : Nat) (ht : tb.length = 256) (hc : CU W B mn av mx tb hv h true) :
    Calls Try.prog 22 #[.pointer (some ⟨B, 0, none⟩)] W fun e w' => e = .returned (.tuple #[.slice none 0 0, .int .i64 12]) ∧ w' = W := by
  have k2 := hc.gEnded ht
  go_enter Try.func22, Try.ntmps22
  go_wp2_with fail
  go_ret2
  exact ⟨rfl, rfl⟩
theorem WriteG_ended (W : World) (B : Nat) (mn av mx : Nat) (tb : List Nat) (hv v : Value) (h : Nat) (ht : tb.length = 256) (hc : CU W B mn av mx tb hv h true) :
    Calls Try.prog 20 #[.pointer (some ⟨B, 0, none⟩), v] W fun e w' => e = .returned (.tuple #[.slice none 0 0, .int .i64 12]) ∧ Below W.heap.size W w' := by
  have hb : Below W.heap.size W (W.alloc (.cells #[.pointer (some ⟨B, 0, none⟩)] 42)) := (Below.refl _ _).alloc (Nat.le_refl _) _
  have k2 := (hc.move (hb.block B hc.lt)).gEnded ht
  have HB := Lib.hid hb
  clear hb
  go_enter Try.func20, Try.ntmps20
  go_wp2_with fail
  go_ret2
  exact ⟨rfl, HB.out⟩
theorem SRow.vals {W : World} {okc : Nat → Prop} {base e : Nat} {X : Option Addr} {n c : Nat} {css : List (List Nat)} (h : SRow W okc base e (.slice X n c) css) :
    ∃ vals : List Value, vals.length = css.length ∧ (∀ k, okc k → k < W.heap.size) ∧ (∀ u ∈ vals, u.oneCell' = true) ∧
      (∀ i (h : i < css.length), ∃ A c, vals[i]? = some (.slice A css[i].length c) ∧ css[i].length ≤ c ∧ RN .u8 W A css[i] ∧ ∀ a, A = some a → okc a.block) ∧
      (0 < css.length → ∃ ad, X = some ad ∧ ∀ j u, vals[j]? = some u → W.cell? (ad.add j) = some u) := by
  obtain ⟨vals, h1, h2, h3, h4⟩ := h
  have hv : vals.length = css.length := by have := h1.1; omega
  refine ⟨vals, hv, h2, fun u hu => ?_, h4, fun hp => ?_⟩
  · obtain ⟨i, hi, rfl⟩ := List.getElem_of_mem hu
    obtain ⟨A, c, e1, _⟩ := h4 i (by omega)
    rw [List.getElem?_eq_getElem hi] at e1
    injection e1 with e1
    rw [e1]
    rfl
  · rcases h1.2 with ⟨_, h0⟩ | ⟨g, cap, cur, e2, _⟩
    · omega
    · injection e2 with e3 e4 e5
      exact ⟨_, e3, fun j u hu => h1.cells (g := g) (by rw [e3]; rfl) j u hu⟩
/-- The document's chunks that end within a text; what is left lies in new memory. -/
theorem SplitG_c (mn av mx : Nat) (tb : List Nat) (A : Option Addr) (c : Nat) (p : List Nat) (W : World) (ht : tb.length = 256) (hb : ∀ x ∈ tb, x < 4294967296) (h : cutOk mn av mx = true)
    (hr : RN .u8 W A p) (hp : ∀ x ∈ p, x < 256) (hn : p.length ≤ 10000000) :
    Calls Try.prog 18 #[.agg #[.int .i64 mn, .int .i64 av, .int .i64 mx], .agg (tabA tb), .slice A p.length c] W fun e w' =>
      ∃ v A' c' okc, e = .returned (.tuple #[v, .slice A' (p.foldl (gstep mn av mx tb) ([], [])).2.length c']) ∧ SRow w' okc W.heap.size 32 v (p.foldl (gstep mn av mx tb) ([], [])).1 ∧ RN .u8 w' A' (p.foldl (gstep mn av mx tb) ([], [])).2 ∧ (∀ a, A' = some a → W.heap.size ≤ a.block ∧ a.block < w'.heap.size) ∧ Below W.heap.size W w' := by
  have hav : 1 ≤ av ∧ av ≤ 256 ∧ av ∣ 4294967296 := by
    unfold cutOk at h
    simp only [Bool.and_eq_true] at h
    exact isPow_dvd h.2
  have hmn : 1 ≤ mn ∧ mn ≤ mx ∧ mx ≤ 512 := by
    unfold cutOk at h
    simp only [Bool.and_eq_true, decide_eq_true_eq] at h
    omega
  rw [fold_nil mn av mx tb p hmn.1 hav.1 hav.2.2 (p.length + 1) (Nat.lt_succ_self _)]
  refine (Split_c A c mn av mx tb p W ht hb hr hp hmn.1 hmn.2.1 hmn.2.2 hav.2.1 hn (p.length + 1) (Nat.lt_succ_self _)).mono ?_
  rintro e w' ⟨v, A', c', okc, h1, h2, _, h4, _, h6, h7⟩
  exact ⟨v, A', c', okc, h1, h2, h4, fun a ha => ⟨(h6 a ha).1, (h6 a ha).2.1⟩, h7⟩

section
variable {P : Program} {ops : Array Oper} {rest : List Oper} {o : Oper} {a : Act} {Q : Exit → Act → World → Prop}
theorem append_SR {W : World} (base : Nat) (hgd : o.guard = none) (s x : Operand) (t e : TypeId)
    (ho : o.op = .call { callee := .builtin .append, args := #[s, x], argTypes := #[t, t] })
    (ht : P.underlying t = some (.slice e)) (hinfo : (P.info? e).map (fun i => (i.zero, i.size, i.bytes)) = some (some (.slice none 0 0), 1, 24))
    (v : Value) (okc okc3 : Nat → Prop) (css ds : List (List Nat)) (X : Option Addr) (xc base3 : Nat) (hs : a.eval s = v) (hx : a.eval x = .slice X ds.length xc)
    (HO : SRow W okc base e v css) (HX : SRow W okc3 base3 e (.slice X ds.length xc) ds) (hA : ∀ k, okc3 k → v.ownBlock ≠ some k) (hbase : base ≤ W.heap.size) (hl : (css.length + ds.length) * 24 ≤ 140737488355328)
    (h : ∀ v1 w1, SRow w1 (fun k => okc k ∨ okc3 k) base e v1 (css ++ ds) → W.grownBy w1 v.ownBlock → (v1.ownBlock = v.ownBlock ∨ ∃ b, v1.ownBlock = some b ∧ W.heap.size ≤ b) → wpList P ops Q rest (a.put o.dst v1) w1) :
    wpList P ops Q (o :: rest) a W := by
  refine wpList_plain hgd fun _ hK => ?_
  obtain ⟨i0, hi, hzz⟩ := Option.map_eq_some_iff.1 hinfo
  simp only [Prod.mk.injEq] at hzz
  obtain ⟨hz0, hz1, hz2⟩ := hzz
  obtain ⟨vals, h1, h2, h3, h4⟩ := HO
  obtain ⟨vals3, g1, g2, g3, g4, g5⟩ := HX.vals
  have hv : vals.length = css.length := by have := h1.1; omega
  have hrun : ∃ v1 w1, (Builtin.append_ #[t, t] o.type #[v, .slice X ds.length xc]).run P W = .ok v1 w1 ∧ w1.ownsRow base e 1 v1 (css.length + ds.length) (vals ++ vals3) ∧ W.grownBy w1 v.ownBlock ∧ (v1.ownBlock = v.ownBlock ∨ v1.ownBlock = some W.heap.size) := by
    cases X with
    | none =>
      have h0 : ds = [] := by
        cases ds with
        | nil => rfl
        | cons y ys => obtain ⟨ad, h, _⟩ := g5 (by simp); cases h
      subst h0
      have hv3 : vals3 = [] := List.eq_nil_of_length_eq_zero (by simpa using g1)
      subst hv3
      refine ⟨v, W, ?_, by simpa using h1, World.grownBy.refl W _, .inl rfl⟩
      rcases h1.2 with ⟨rfl, hn⟩ | ⟨g, cap, cur, rfl, _, _, hnc, _⟩
      · simp [Builtin.append_, run_underlying ht, sizeOf, typeInfo, hi, Builtin.lenOf, Builtin.firstCells]
      · simp [Builtin.append_, run_underlying ht, sizeOf, typeInfo, hi, Builtin.lenOf, Builtin.firstCells, hnc, storeCells]
    | some ad =>
      have hcells : ∀ j u, vals3[j]? = some u → W.cell? (ad.add j) = some u := by
        intro j u hu
        have hj : j < vals3.length := by
          rcases Nat.lt_or_ge j vals3.length with h | h
          · exact h
          · simp [List.getElem?_eq_none h] at hu
        obtain ⟨ad', e', hc⟩ := g5 (by omega)
        injection e' with e'
        subst e'
        exact hc j u hu
      obtain ⟨v1, w1, hr, q2, q3, _, q5⟩ := run_append_own_at (P := P) W base t o.type e i0 (.slice none 0 0) 1 24 ht hi hz0 hz1 hz2 rfl (by omega) v css.length vals h1 ad ds.length xc vals3 (by omega) hcells g3 (by simp only [maxLen]; omega) hl hbase
      exact ⟨v1, w1, hr, q2, q3, q5⟩
  obtain ⟨v1, w1, hr, hown, hg, hat⟩ := hrun
  have hkeep : ∀ k, k < W.heap.size → v.ownBlock ≠ some k → w1.heap[k]? = W.heap[k]? := fun k hk hne => hg.block k hk (fun e => hne e.symm)
  have hS : SRow w1 (fun k => okc k ∨ okc3 k) base e v1 (css ++ ds) := by
    refine ⟨vals ++ vals3, by rw [List.length_append]; exact hown, ?_, ?_, ?_⟩
    · rintro k (hk | hk)
      · have := h2 k hk; have := hg.size; omega
      · have := g2 k hk; have := hg.size; omega
    · rintro k hk (hk' | hk')
      · rcases hat with hat | hat
        · exact h3 k (hat ▸ hk) hk'
        · rw [hat] at hk; injection hk with hk; have := h2 k hk'; omega
      · rcases hat with hat | hat
        · exact hA k hk' (hat ▸ hk)
        · rw [hat] at hk; injection hk with hk; have := g2 k hk'; omega
    · intro i hi
      by_cases hlt : i < css.length
      · obtain ⟨A', c', e1, e2, e3, e4⟩ := h4 i hlt
        have hgi : (css ++ ds)[i] = css[i] := List.getElem_append_left hlt
        rw [hgi]
        exact ⟨A', c', by rw [List.getElem?_append_left (by omega)]; exact e1, e2, e3.move (fun a ha => hkeep _ (h2 _ (e4 a ha)) (fun e => h3 _ e (e4 a ha))), fun a ha => .inl (e4 a ha)⟩
      · have hi2 : i - css.length < ds.length := by rw [List.length_append] at hi; omega
        obtain ⟨A', c', e1, e2, e3, e4⟩ := g4 (i - css.length) hi2
        have hgi : (css ++ ds)[i] = ds[i - css.length] := List.getElem_append_right (by omega)
        rw [hgi]
        exact ⟨A', c', by rw [List.getElem?_append_right (by omega), hv]; exact e1, e2, e3.move (fun a ha => hkeep _ (g2 _ (e4 a ha)) (hA _ (e4 a ha))), fun a ha => .inr (e4 a ha)⟩
  unfold Oper.wp execOp
  simp only [ho, resolve, invoke, builtin, Sem.run_bind, Sem.run_pure, Result.andThen_ok, List.map_toArray, List.map_cons, List.map_nil, hs, hx, hr]
  exact hK _ _ (h v1 w1 hS hg (by
    rcases hat with hat | hat
    · exact .inl hat
    · exact .inr ⟨_, hat, Nat.le_refl _⟩))
end
end Go.Proofs.Ytbckibjpaiealaa.F
