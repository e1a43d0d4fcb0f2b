/- From a row's opened slice of slices of bytes to lists of numbers. -/
import Derived.Test.YtejmklfhcealnaaBr
import Derived.Test.YtejmklfhcealnaaRk
import Derived.Test.YtejmklfhcealnaaBk
import Derived.Deep.Matrix
set_option linter.unusedVariables false
set_option linter.unusedSimpArgs false
namespace Go.Proofs.Ytejmklfhcealnaa.F
open Go.RowKit Go.Proofs.YtejmklfhcealnaaW.PrintWords

theorem bulk_app {H : Type} (a b : List (DataW H)) : Rows.uptoBulkAll (a ++ b) = Rows.uptoBulkAll a + Rows.uptoBulkAll b := by
  induction a with
  | nil => simp [Rows.uptoBulkAll]
  | cons x r ih => simp only [List.cons_append, Rows.uptoBulkAll, ih]; omega
theorem bulk_rows {H : Type} (A : Nat → Option Addr) (L C : Nat → Nat) (Z : Nat → List Int) : ∀ n : Nat, (∀ r, r < n → L r ≤ C r ∧ (Z r).length = C r ∧ (A r = none → C r = 0)) →
    (((List.range n).map fun r => ((Z r).take (L r)).map Int.toNat).flatten).length ≤ Rows.uptoBulkAll (H := H) ((List.range n).map fun r => Go.Deep.intRow .u8 (A r) (L r) (Z r))
  | 0, _ => by simp
  | n + 1, h => by
    have ih := bulk_rows (H := H) A L C Z n (fun r hr => h r (by omega))
    obtain ⟨h1, h2, h3⟩ := h n (by omega)
    rw [List.range_succ, List.map_append, List.map_append, List.flatten_append, List.length_append, bulk_app]
    have hl : ([n].map fun r => ((Z r).take (L r)).map Int.toNat).flatten.length = L n := by simp; omega
    have hb : L n ≤ Rows.uptoBulkAll (H := H) ([n].map fun r => Go.Deep.intRow .u8 (A r) (L r) (Z r)) := by
      simp only [List.map_cons, List.map_nil, Rows.uptoBulkAll]
      unfold Go.Deep.intRow
      cases hA : A n with
      | none => have := h3 hA; omega
      | some a =>
        have := bulk_slice (H := H) (Go.ChangeShapes.lits .u8 ((Z n).take (L n))) (Go.ChangeShapes.lits .u8 ((Z n).drop (L n)))
        have hll : (Go.ChangeShapes.lits (H := H) .u8 ((Z n).take (L n))).length = L n := by simp [Go.ChangeShapes.lits]; omega
        rw [hll] at this
        dsimp only
        omega
    omega
theorem RR.ofTrod {H : Type} {P : Program} {enc : TypeId × Value → H} {w : World} {base : Nat} {held : Bool} {t e q : TypeId} {a : Option Addr} {len cap : Nat} {d : DataW H} {p : List MemPlace}
    (ht : P.underlying t = some (.slice e)) (he : P.underlying e = some (.slice q)) (hq : P.underlying q = some (.int .u8)) (ce : P.cellsOf e = 1) (cq : P.cellsOf q = 1) (h : DataW.Trod enc P w base (fun _ => true) held t (.slice a len cap) d p) :
    ∃ css : List (List Nat), len = css.length ∧ RR w a css ∧ (∀ x ∈ css.flatten, x < 256) ∧ css.length ≤ cap ∧ css.flatten.length ≤ Rows.uptoBulk d ∧ css.length ≤ Rows.uptoBulk d := by
  obtain ⟨fuel, hf⟩ := h
  rcases Go.Deep.open_int_rows ht he hq ce cq hf with ⟨hcs, hd⟩ | ⟨ad, len', cap', A, L, C, Z, hcs, _, hl, hm, hd, hx⟩
  · simp [Value.cells] at hcs
    obtain ⟨rfl, rfl, rfl⟩ := hcs
    exact ⟨[], rfl, RR.nil _, by simp, by simp, by simp, by simp⟩
  · simp [Value.cells] at hcs
    obtain ⟨rfl, rfl, rfl⟩ := hcs
    injection hd with hd _
    subst hd
    have hcl : ((List.range len).map fun r => ((Z r).take (L r)).map Int.toNat).length = len := by simp
    refine ⟨(List.range len).map fun r => ((Z r).take (L r)).map Int.toNat, hcl.symm, ⟨by rw [hcl]; unfold maxLen at hm; omega, fun hp => ⟨ad, rfl, fun i hi => ?_⟩⟩, ?_, by rw [hcl]; exact hl, ?_, ?_⟩
    · rw [hcl] at hi
      obtain ⟨h1, h2, h3, h4, h5, h6, h7⟩ := hx i (by omega)
      have e1 : ((List.range len).map fun r => ((Z r).take (L r)).map Int.toNat)[i]'(by rw [hcl]; exact hi) = ((Z i).take (L i)).map Int.toNat := by simp
      have e2 : (((Z i).take (L i)).map Int.toNat).length = L i := by simp; omega
      rw [e1, e2]
      refine ⟨A i, C i, h1, h2, ?_⟩
      have hrow : IsRow .u8 w (A i) (L i) (C i) (Z i) := by
        cases hA : A i with
        | none =>
          have h0 := h6 hA
          exact .inl ⟨rfl, by omega, h0, List.eq_nil_of_length_eq_zero (by omega)⟩
        | some a' => exact .inr ⟨a', rfl, h2, h3, h4, fun c hc => (h7 a' hA).2 c (by omega), h5⟩
      rcases hrow with ⟨hA, h0, h0', hz⟩ | ⟨x, hA, r1, r2, r3, r4, r5⟩
      · rw [hA, hz, List.take_nil]; exact RN.nil _ _
      · refine Kd.C_of_reads (d := 0) ⟨rfl, by rw [e2]; unfold maxLen at r2; omega, fun hp => ⟨x, hA, fun j hj => ?_⟩⟩
        rw [e2] at hj
        rw [r4 j (by omega)]
        have hj2 : j < (Z i).length := by omega
        obtain ⟨m, hm1, _⟩ := nat_u8 (r5 _ (List.getElem_mem hj2))
        simp [List.getD_eq_getElem?_getD, hj, hj2, encN]
        omega
    · intro x hx'
      obtain ⟨l, hl1, hl2⟩ := List.mem_flatten.1 hx'
      obtain ⟨r, hr1, rfl⟩ := List.mem_map.1 hl1
      obtain ⟨z, hz1, rfl⟩ := List.mem_map.1 hl2
      obtain ⟨_, _, _, _, h5, _⟩ := hx r (by have := List.mem_range.1 hr1; omega)
      obtain ⟨m, rfl, hm2⟩ := nat_u8 (h5 z (List.mem_of_mem_take hz1))
      simpa using hm2
    · have := bulk_rows (H := H) A L C Z len (fun r hr => by
        obtain ⟨_, h2, _, h4, _, h6, _⟩ := hx r (by omega)
        exact ⟨h2, h4, h6⟩)
      simp only [Rows.uptoBulk]
      omega
    · have := bulk_slice (H := H) ((List.range len).map fun r => Go.Deep.intRow .u8 (A r) (L r) (Z r)) ((List.range (cap - len)).map fun j => Go.Deep.intRow .u8 (A (len + j)) (L (len + j)) (Z (len + j)))
      simp only [List.length_map, List.length_range] at this ⊢
      exact this
end Go.Proofs.Ytejmklfhcealnaa.F
