/- From a row's opened slice of deeds to a list. -/
import Derived.Test.YtdfgaomlahpblaaEA
import Derived.Test.YtdfgaomlahpblaaRk
import Derived.Deep.Slices
set_option linter.unusedVariables false
set_option linter.unusedSimpArgs false
namespace Go.Proofs.Ytdfgaomlahpblaa.F
open Go.RowKit Go.Proofs.YtdfgaomlahpblaaW.PrintWords

theorem RD.ofTrod {H : Type} {enc : TypeId × Value → H} {w : World} {base : Nat} {held : Bool} {a : Option Addr} {len cap : Nat} {d : DataW H} {p : List MemPlace}
    (h : DataW.Trod enc Try.prog w base (fun _ => true) held 40 (.slice a len cap) d p) : ∃ ds : List Dd, len = ds.length ∧ RD w a ds := by
  obtain ⟨fuel, hf⟩ := h
  rcases Go.Deep.open_slice Try.underlying40 hf with ⟨hcs, hd⟩ | ⟨ad, len', cap', m, n, D, Pl, hcs, _, hl, hm, hmm, _, hx⟩
  · simp [Value.cells] at hcs
    obtain ⟨rfl, rfl, rfl⟩ := hcs
    exact ⟨[], rfl, by simp, fun h => by simp at h, by simp⟩
  · simp [Value.cells] at hcs
    obtain ⟨rfl, rfl, rfl⟩ := hcs
    have hmc : m = cap := by simpa using hmm
    subst hmc
    rw [show Try.prog.cellsOf 54 = 3 by kernel_rfl] at hx
    have each : ∀ i, i < len → ∃ q : Dd, w.cell? (ad.add (i * 3)) = some (.int .i64 q.1) ∧ w.cell? ⟨(ad.add (i * 3)).block, (ad.add (i * 3)).off + 1, none⟩ = some (.int .i64 q.2.1) ∧ w.cell? ⟨(ad.add (i * 3)).block, (ad.add (i * 3)).off + 2, none⟩ = some (.int .i64 q.2.2) ∧ -9223372036854775808 ≤ q.2.1 ∧ q.2.1 ≤ 9223372036854775807 := by
      intro i hi
      obtain ⟨cs', h1, h2⟩ := hx i (by omega)
      obtain ⟨_, hlen, hcell⟩ := World.cells?_some h1
      obtain ⟨xs, k, hk, hxy, _, hxl, hff⟩ := DataW.trod_struct Try.underlying54 h2
      match xs, hxl, cs', hlen with
      | [y0, y1], _, [v0, v1, v2], _ =>
        have g0 := hff 0 _ rfl
        have g1 := hff 1 _ rfl
        have hc1 : Try.prog.cellsOf 3 = 1 := by kernel_rfl
        have hc2 : Try.prog.cellsOf 38 = 2 := by kernel_rfl
        simp [hc1, hc2] at g0 g1
        obtain ⟨xs2, k2, hk2, hxy2, _, hxl2, hff2⟩ := DataW.trod_struct Try.underlying38 g1
        match xs2, hxl2 with
        | [z0, z1], _ =>
          have q0 := hff2 0 _ rfl
          have q1 := hff2 1 _ rfl
          simp [hc1, hc2] at q0 q1
          obtain ⟨a0, e0, _, w0⟩ := DataW.trod_int Try.underlying3 g0
          obtain ⟨a1, e1, _, w1⟩ := DataW.trod_int Try.underlying3 q0
          obtain ⟨a2, e2, _, w2⟩ := DataW.trod_int Try.underlying3 q1
          simp at e0 e1 e2
          subst e0 e1 e2
          have c0 := hcell 0 (by omega)
          have c1 := hcell 1 (by omega)
          have c2 := hcell 2 (by omega)
          have hb := int_i64 w1
          refine ⟨(a0, a1, a2), ?_, ?_, ?_, ?_⟩
          · simpa [Addr.add] using c0
          · simpa [Addr.add] using c1
          · simpa [Addr.add] using c2
          · exact hb
    obtain ⟨q, hq⟩ := Go.Deep.choose_lt each
    have hcl : ((List.range len).map q).length = len := by simp
    refine ⟨(List.range len).map q, hcl.symm, by rw [hcl]; unfold maxLen at hm; omega, fun hp => ⟨ad, rfl, ?_, fun i hi => ?_⟩, fun x hx2 => ?_⟩
    · rw [hcl] at hp
      have := World.block_lt_of_cell? _ _ (hq 0 hp).1
      rwa [add_blk] at this
    · rw [hcl] at hi
      obtain ⟨h1, h2, h3, _⟩ := hq i hi
      have e : ((List.range len).map q)[i]'(by rw [hcl]; exact hi) = q i := by simp
      rw [e]
      exact ⟨h1, h2, h3⟩
    · obtain ⟨i, hi, rfl⟩ := List.mem_map.1 hx2
      exact (hq i (List.mem_range.1 hi)).2.2.2
end Go.Proofs.Ytdfgaomlahpblaa.F
