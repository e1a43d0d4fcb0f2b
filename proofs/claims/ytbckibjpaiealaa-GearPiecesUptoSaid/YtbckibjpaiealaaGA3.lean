/- Words for what stands under a number, and for a cut of a row of rows. -/
import Derived.Test.YtbckibjpaiealaaGA2
set_option linter.unusedVariables false
set_option linter.unusedSimpArgs false
namespace Go.Proofs.Ytbckibjpaiealaa.F
open Go.RowKit Go.Proofs.YtbckibjpaiealaaW.PrintWords

theorem cell_under {W W' : World} {B g n : Nat} {v : Value} (hb : Below B W W') (hg : g < B) (h : W.cell? ⟨g, n, none⟩ = some v) : W'.cell? ⟨g, n, none⟩ = some v := (cell_move (a := ⟨g, n, none⟩) (hb.block g hg)).trans h
theorem range_under {W W' : World} {B g : Nat} {tl : List Value} (h : W.rangeAt g 0 tl) (hb : Below B W W') (hg : g < B) : W'.rangeAt g 0 tl := fun j v hv => (cell_move (a := ⟨g, 0 + j, none⟩) (hb.block g hg)).trans (h j v hv)
theorem below_grown {k : IntKind} {e : TypeId} {B : Nat} {W W' : World} {v : Value} {xs : List Nat} (ho : OwnN k e W B v xs) (hb : B ≤ W.heap.size) (hg : W.grownBy W' v.ownBlock) : Below B W W' :=
  ⟨hg.os, hg.tape, hg.output, hg.size, fun j hj => hg.block j (by omega) (fun hh => by have := (ho.typed j hh.symm).1; omega)⟩
theorem below_drew {W W' : World} {B : Nat} (h : Below B W.drew W') : Below B W W' := ⟨h.os, h.tape, h.output, h.size, h.block⟩
/-- 'xs[m:]' of a row of rows. -/
theorem RR.cut {P : Program} (t e : TypeId) {i : TypeInfo} (ht : P.underlying t = some (.slice e)) (hi : P.info? e = some i) (hsz : i.size = 1) (A : Option Addr) (n c m : Nat) (hm : m ≤ n) (hc : n ≤ c) :
    ∃ A' : Option Addr, (∀ W : World, (Instr.slice t (.slice A n c) (some (.int .i64 (m : Int))) none none).run P W = .ok (.slice A' (n - m) (c - m)) W) ∧
      ∀ (w : World) (css : List (List Nat)), css.length = n → RR w A css → RR w A' (css.drop m) := by
  have hel : P.elem t = e := by simp [Program.elem, ht]
  have hu : P.underlying t = some (.slice (P.elem t)) := by rw [hel]; exact ht
  refine ⟨if c = m then A else A.map (·.add m), fun W => ?_, fun w css hx h => ?_⟩
  · rw [run_slice_l W t A n c hu .i64 (m : Int) (Int.natCast_nonneg _) (by omega), hel]
    simp [sizeOf, typeInfo, hi, hsz, sliced, Result.andThen]
  · refine ⟨by rw [List.length_drop]; have := h.1; omega, fun hp => ?_⟩
    rw [List.length_drop] at hp
    obtain ⟨ad, e, hcell⟩ := h.2 (by omega)
    subst e
    refine ⟨ad.add m, by rw [if_neg (by omega)]; rfl, fun j hj => ?_⟩
    rw [List.length_drop] at hj
    obtain ⟨A', c', h1, h2, h3⟩ := hcell (m + j) (by omega)
    rw [List.getElem_drop]
    exact ⟨A', c', by rw [add_add]; exact h1, h2, h3⟩
theorem info_sl' : ∃ i, Try.prog.info? 32 = some i ∧ i.size = 1 := by
  have h : (Try.prog.info? 32).map (fun i => i.size) = some 1 := by kernel_rfl
  obtain ⟨i, hi, hz⟩ := Option.map_eq_some_iff.1 h
  exact ⟨i, hi, hz⟩
end Go.Proofs.Ytbckibjpaiealaa.F
