/- Words for a region that draws: a row that is read, behind a row of the call's own; a whole table under S; the document's chunks. -/
import Derived.Test.YtbckibjpaiealaaGg
import Derived.Test.YtbckibjpaiealaaGU
import Derived.Deep.MidRow
set_option linter.unusedVariables false
set_option linter.unusedSimpArgs false
namespace Go.Proofs.Ytbckibjpaiealaa.F
open Go.RowKit Go.Proofs.YtbckibjpaiealaaW.PrintWords

section
variable {P : Program} {ops : Array Oper} {o : Oper} {a : Act} {K : Act → World → Prop} {Q : Exit → Act → World → Prop} {E : Prop}
theorem step_append_NN {W : World} (base : Nat) (hgd : o.guard = none) (s x : Operand) (t e : TypeId) (k : IntKind) (bytes : Nat)
    (ho : o.op = .call { callee := .builtin .append, args := #[s, x], argTypes := #[t, t] })
    (ht : P.underlying t = some (.slice e)) (hinfo : (P.info? e).map (fun i => (i.zero, i.size, i.bytes)) = some (some (.int k 0), 1, bytes)) (hb0 : 0 < bytes)
    (v : Value) (xs ys : List Nat) (A : Option Addr) (c : Nat) (hs : a.eval s = v) (hx : a.eval x = .slice A ys.length c)
    (HO : OwnN k e W base v xs) (HR : RN k W A ys) (hbase : base ≤ W.heap.size) (hl : (xs.length + ys.length) * bytes ≤ 140737488355328)
    (h : ∀ v1 w1, OwnN k e w1 base v1 (xs ++ ys) → W.grownBy w1 v.ownBlock → (v1.ownBlock = v.ownBlock ∨ ∃ b, v1.ownBlock = some b ∧ W.heap.size ≤ b) → K (a.put o.dst v1) w1) :
    if Region.wanted o (yielded ops a.tmps) = true then Oper.wp P o a W K Q else E := by
  have hw : Region.wanted o (yielded ops a.tmps) = true := by simp [Region.wanted, hgd]
  rw [if_pos hw]
  obtain ⟨i0, hi, hzz⟩ := Option.map_eq_some_iff.1 hinfo
  simp only [Prod.mk.injEq] at hzz
  obtain ⟨hz0, hz1, hz2⟩ := hzz
  have hlen : xs.length + ys.length ≤ 140737488355328 := Nat.le_trans (Nat.le_mul_of_pos_right _ hb0) hl
  have HO' : W.ownsRow base e 1 v xs.length (xs.map (encN k)) := HO
  have hrun : ∃ v1 w1, (Builtin.append_ #[t, t] o.type #[v, .slice A ys.length c]).run P W = .ok v1 w1 ∧ OwnN k e w1 base v1 (xs ++ ys) ∧ W.grownBy w1 v.ownBlock ∧ (v1.ownBlock = v.ownBlock ∨ v1.ownBlock = some W.heap.size) := by
    cases A with
    | none =>
      have h0 : ys = [] := by
        cases ys with
        | nil => rfl
        | cons y ys => obtain ⟨ad, h, _⟩ := HR.at 0 (by simp); cases h
      subst h0
      refine ⟨v, W, ?_, by simpa using HO, World.grownBy.refl W _, .inl rfl⟩
      rcases HO'.2 with ⟨rfl, hn⟩ | ⟨g, cap, cur, rfl, _, _, hnc, _⟩
      · simp [Builtin.append_, run_underlying ht, sizeOf, typeInfo, hi, Builtin.lenOf, Builtin.firstCells]
      · simp [Builtin.append_, run_underlying ht, sizeOf, typeInfo, hi, Builtin.lenOf, Builtin.firstCells, hnc, storeCells]
    | some ad =>
      have hcells : ∀ j u, (ys.map (encN k))[j]? = some u → W.cell? (ad.add j) = some u := by
        intro j u hu
        have hj : j < ys.length := by
          rcases Nat.lt_or_ge j ys.length with h | h
          · exact h
          · simp [List.getElem?_eq_none h] at hu
        obtain ⟨ad', h', hc⟩ := HR.at j hj
        injection h' with h'
        subst h'
        simp [hj] at hu
        rw [← hu]
        exact hc
      obtain ⟨v1, w1, hr, h2, h3, _, h5⟩ := run_append_own_at (P := P) W base t o.type e i0 (.int k 0) 1 bytes ht hi hz0 hz1 hz2 rfl (by omega) v xs.length (xs.map (encN k)) HO' ad ys.length c (ys.map (encN k)) (by simp) hcells
        (by intro u hu; simp only [List.mem_map] at hu; obtain ⟨q, _, rfl⟩ := hu; rfl) (by simp only [maxLen]; omega) hl hbase
      exact ⟨v1, w1, hr, by simpa [OwnN] using h2, h3, h5⟩
  obtain ⟨v1, w1, hr, hown, hg, hat⟩ := hrun
  unfold Oper.wp execOp
  simp only [ho, resolve, invoke, builtin, Sem.run_bind, Sem.run_pure, Result.andThen_ok, List.map_toArray, List.map_cons, List.map_nil, hs, hx, hr]
  exact h v1 w1 hown hg (by
    rcases hat with hat | hat
    · exact .inl hat
    · exact .inr ⟨_, hat, Nat.le_refl _⟩)
end

/-- The document's chunks that end within a text. -/
theorem SplitF_c (mn av mx : Nat) (tb : List Nat) (A : Option Addr) (c : Nat) (p : List Nat) (W : World) (ht : tb.length = 256) (hb : ∀ x ∈ tb, x < 4294967296) (h : cutOk mn av mx = true)
    (hr : RN .u8 W A p) (hp : ∀ x ∈ p, x < 256) (hn : p.length ≤ 10000000) :
    Calls Try.prog 18 #[.agg #[.int .i64 mn, .int .i64 av, .int .i64 mx], .agg (tabA tb), .slice A p.length c] W fun e w' =>
      ∃ v A' c' okc, e = .returned (.tuple #[v, .slice A' (p.foldl (gstep mn av mx tb) ([], [])).2.length c']) ∧ SRow w' okc W.heap.size 32 v (p.foldl (gstep mn av mx tb) ([], [])).1 ∧ RN .u8 w' A' (p.foldl (gstep mn av mx tb) ([], [])).2 ∧ Below W.heap.size W w' := by
  have hav : 1 ≤ av ∧ av ≤ 256 ∧ av ∣ 4294967296 := by
    unfold cutOk at h
    simp only [Bool.and_eq_true] at h
    exact isPow_dvd h.2
  have hmn : 1 ≤ mn ∧ mn ≤ mx ∧ mx ≤ 512 := by
    unfold cutOk at h
    simp only [Bool.and_eq_true, decide_eq_true_eq] at h
    omega
  rw [fold_nil mn av mx tb p hmn.1 hav.1 hav.2.2 (p.length + 1) (Nat.lt_succ_self _)]
  refine (Split_c A c mn av mx tb p W ht hb hr hp hmn.1 hmn.2.1 hmn.2.2 hav.2.1 hn (p.length + 1) (Nat.lt_succ_self _)).mono ?_
  rintro e w' ⟨v, A', c', okc, h1, h2, _, h4, _, _, h7⟩
  exact ⟨v, A', c', okc, h1, h2, h4, h7⟩

/-- A whole table lies in a block. -/
theorem range_of_block {W : World} {g : Nat} {tl : List Value} {t : TypeId} (h : W.heap[g]? = some (.cells tl.toArray t (0, 0))) : W.rangeAt g 0 tl := fun j v hv => by
  rw [Nat.zero_add, cell_of_row _ _ _ _ _ _ h]
  simpa using hv
theorem range_below {W W' : World} {g : Nat} {tl : List Value} (h : W.rangeAt g 0 tl) (hb : Below W.heap.size W W') (hg : g < W.heap.size) : W'.rangeAt g 0 tl := fun j v hv => (cell_move (a := ⟨g, 0 + j, none⟩) (hb.block g hg)).trans (h j v hv)
end Go.Proofs.Ytbckibjpaiealaa.F
