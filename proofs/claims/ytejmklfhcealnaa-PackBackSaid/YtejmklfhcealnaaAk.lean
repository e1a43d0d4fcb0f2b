/- An append of one number to a row of the call's own: the row's own cells stay where they were, too. -/
import Derived.Test.YtejmklfhcealnaaAp
import Derived.Test.YtejmklfhcealnaaDx
import Derived.Deep.AppendLies
set_option linter.unusedVariables false
set_option linter.unusedSimpArgs false
namespace Go.Proofs.Ytejmklfhcealnaa.F
open Go.RowKit Go.Proofs.YtejmklfhcealnaaW.PrintWords

section
variable {P : Program} {o : Oper} {a : Act} {K : Act → World → Prop} {Q : Exit → Act → World → Prop}
theorem wp_append_keep {W : World} (base : Nat) (s x : Operand) (t e : TypeId) (k : IntKind) (bytes : Nat)
    (ho : o.op = .call { callee := .builtin .append, args := #[s, x], argTypes := #[t, t] })
    (ht : P.underlying t = some (.slice e)) (hinfo : (P.info? e).map (fun i => (i.zero, i.size, i.bytes)) = some (some (.int k 0), 1, bytes)) (hb0 : 0 < bytes)
    (g cap : Nat) (xs ys : List Nat) (A : Option Addr) (c : Nat) (hs : a.eval s = .slice (some ⟨g, 0, none⟩) xs.length cap) (hx : a.eval x = .slice A ys.length c)
    (HO : OwnN k e W base (.slice (some ⟨g, 0, none⟩) xs.length cap) xs) (HR : RN k W A ys) (hbase : base ≤ W.heap.size) (hl : (xs.length + ys.length) * bytes ≤ 140737488355328)
    (h : ∀ v1 w1, OwnN k e w1 base v1 (xs ++ ys) → W.grownBy w1 (some g) → (∀ j, j < xs.length → w1.cell? ⟨g, j, none⟩ = W.cell? ⟨g, j, none⟩) → K (a.put o.dst v1) w1) :
    Oper.wp P o a W K Q := by
  obtain ⟨i0, hi, hzz⟩ := Option.map_eq_some_iff.1 hinfo
  simp only [Prod.mk.injEq] at hzz
  obtain ⟨hz0, hz1, hz2⟩ := hzz
  have hlen : xs.length + ys.length ≤ 140737488355328 := Nat.le_trans (Nat.le_mul_of_pos_right _ hb0) hl
  have HO' : W.ownsRow base e 1 (.slice (some ⟨g, 0, none⟩) xs.length cap) xs.length (xs.map (encN k)) := HO
  have hrun : ∃ v1 w1, (Builtin.append_ #[t, t] o.type #[.slice (some ⟨g, 0, none⟩) xs.length cap, .slice A ys.length c]).run P W = .ok v1 w1 ∧ OwnN k e w1 base v1 (xs ++ ys) ∧ W.grownBy w1 (some g) ∧ ∀ j, j < xs.length → w1.cell? ⟨g, j, none⟩ = W.cell? ⟨g, j, none⟩ := by
    cases A with
    | none =>
      have h0 : ys = [] := by
        cases ys with
        | nil => rfl
        | cons y ys => obtain ⟨ad, h, _⟩ := HR.at 0 (by simp); cases h
      subst h0
      refine ⟨_, W, ?_, by simpa using HO, World.grownBy.refl W _, fun _ _ => rfl⟩
      rcases HO'.2 with ⟨h1, hn⟩ | ⟨g', cap', cur, h1, _, _, hnc, _⟩
      · simp at h1
      · simp only [Value.slice.injEq, Option.some.injEq, Addr.mk.injEq, and_true, true_and] at h1
        obtain ⟨rfl, rfl⟩ := h1
        simp [Builtin.append_, run_underlying ht, sizeOf, typeInfo, hi, Builtin.lenOf, Builtin.firstCells, hnc, storeCells]
    | some ad =>
      have hcells : ∀ j u, (ys.map (encN k))[j]? = some u → W.cell? (ad.add j) = some u := by
        intro j u hu
        have hj : j < ys.length := by
          rcases Nat.lt_or_ge j ys.length with h | h
          · exact h
          · simp [List.getElem?_eq_none h] at hu
        obtain ⟨ad', h', hc⟩ := HR.at j hj
        injection h' with h'
        subst h'
        simp [hj] at hu
        rw [← hu]
        exact hc
      obtain ⟨v1, w1, hr, h2, h3, _, h5⟩ := run_append_own_at (P := P) W base t o.type e i0 (.int k 0) 1 bytes ht hi hz0 hz1 hz2 rfl (by omega) _ xs.length (xs.map (encN k)) HO' ad ys.length c (ys.map (encN k)) (by simp) hcells
        (by intro u hu; simp only [List.mem_map] at hu; obtain ⟨q, _, rfl⟩ := hu; rfl) (by simp only [maxLen]; omega) hl hbase
      have h2' : OwnN k e w1 base v1 (xs ++ ys) := by simpa [OwnN] using h2
      refine ⟨v1, w1, hr, h2', h3, fun j hj => ?_⟩
      rcases HO'.2 with ⟨h1, hn⟩ | ⟨g', cap', cur, h1, hbg, hgc, hnc, hcm, hcs, htk⟩
      · simp at h1
      · simp only [Value.slice.injEq, Option.some.injEq, Addr.mk.injEq, and_true, true_and] at h1
        obtain ⟨rfl, rfl⟩ := h1
        by_cases hroom : xs.length + ys.length ≤ cap
        · have hrr := run_append_room (P := P) W t o.type e i0 ht hi g xs.length cap cur hgc ad ys.length c (ys.map (encN k)) (by rw [hz1]; simp) hcells
            (by intro u hu; simp only [List.mem_map] at hu; obtain ⟨q, _, rfl⟩ := hu; rfl) hroom (by rw [hz1, hcs]; simp; omega)
          rw [hr] at hrr
          injection hrr with hv hw
          subst hv
          have h2'' : OwnN k e w1 base (.slice (some ⟨g, 0, none⟩) (xs ++ ys).length cap) (xs ++ ys) := by rw [List.length_append]; exact h2'
          rw [h2''.cellAt j (by rw [List.length_append]; omega), HO.cellAt j hj, List.getElem_append_left hj]
        · have holds : ∀ j u, (xs.map (encN k))[j]? = some u → W.cell? ((⟨g, 0, none⟩ : Addr).add j) = some u := HO'.cells (g := g) rfl
          have hrr := run_append_grow (P := P) W t o.type e i0 (.int k 0) ht hi hz0 ⟨g, 0, none⟩ xs.length cap (xs.map (encN k)) (by rw [hz1]; simp) holds ad ys.length c (ys.map (encN k)) (by rw [hz1]; simp) hcells (by omega) (by omega) (growslice_fits (by omega) (by rw [hz2]; exact hl))
          rw [hr] at hrr
          injection hrr with hv hw
          subst hw
          refine cell_move (a := ⟨g, j, none⟩) ?_
          exact heap_alloc_old W.drew _ (Array.getElem?_eq_some_iff.1 hgc).1
  obtain ⟨v1, w1, hr, hown, hg, hk⟩ := hrun
  unfold Oper.wp execOp
  simp only [ho, resolve, invoke, builtin, Sem.run_bind, Sem.run_pure, Result.andThen_ok, List.map_toArray, List.map_cons, List.map_nil, hs, hx, hr]
  exact h v1 w1 hown hg hk
theorem step_append_keep {W : World} {ops : Array Oper} {E : Prop} (base : Nat) (hw : Region.wanted o (yielded ops a.tmps) = true) (s x : Operand) (t e : TypeId) (k : IntKind) (bytes : Nat)
    (ho : o.op = .call { callee := .builtin .append, args := #[s, x], argTypes := #[t, t] })
    (ht : P.underlying t = some (.slice e)) (hinfo : (P.info? e).map (fun i => (i.zero, i.size, i.bytes)) = some (some (.int k 0), 1, bytes)) (hb0 : 0 < bytes)
    (g cap : Nat) (xs ys : List Nat) (A : Option Addr) (c : Nat) (hs : a.eval s = .slice (some ⟨g, 0, none⟩) xs.length cap) (hx : a.eval x = .slice A ys.length c)
    (HO : OwnN k e W base (.slice (some ⟨g, 0, none⟩) xs.length cap) xs) (HR : RN k W A ys) (hbase : base ≤ W.heap.size) (hl : (xs.length + ys.length) * bytes ≤ 140737488355328)
    (h : ∀ v1 w1, OwnN k e w1 base v1 (xs ++ ys) → W.grownBy w1 (some g) → (∀ j, j < xs.length → w1.cell? ⟨g, j, none⟩ = W.cell? ⟨g, j, none⟩) → K (a.put o.dst v1) w1) :
    if Region.wanted o (yielded ops a.tmps) = true then Oper.wp P o a W K Q else E := by
  rw [if_pos hw]
  exact wp_append_keep base s x t e k bytes ho ht hinfo hb0 g cap xs ys A c hs hx HO HR hbase hl h
end
end Go.Proofs.Ytejmklfhcealnaa.F
