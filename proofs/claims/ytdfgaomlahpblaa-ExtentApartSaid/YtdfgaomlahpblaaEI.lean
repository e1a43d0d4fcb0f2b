/- ExtentApart over a row of ints as it was opened. -/
import Derived.Test.YtdfgaomlahpblaaEH
namespace Go.Proofs.Ytdfgaomlahpblaa.F
open Go.RowKit Go.Proofs.YtdfgaomlahpblaaW.PrintWords

theorem RI.ofRow {w : World} {a : Option Addr} {len cap : Nat} {zs : List Int} (h : IsRow .i64 w a len cap zs) : RI w a len := by
  rcases h with ⟨rfl, rfl, rfl, rfl⟩ | ⟨x, rfl, hl, hm, hz, hc, hw⟩
  · exact ⟨by omega, fun h => by omega⟩
  · refine ⟨by unfold maxLen at hm; omega, fun hp => ?_⟩
    obtain ⟨b, o, p⟩ := x
    have h0 := hc 0 (by omega)
    have hlt : b < w.heap.size := by
      have := World.block_lt_of_cell? _ _ h0
      rwa [add_blk] at this
    have hp0 : p = none := by
      cases p with
      | none => rfl
      | some q =>
        simp [World.cell?, Addr.add] at h0
        split at h0 <;> cases h0
    subst hp0
    have e : ∀ i, (⟨b, o, none⟩ : Addr).add i = ⟨b, o + i, none⟩ := fun i => by
      unfold Addr.add
      split
      · subst_vars; rfl
      · rfl
    exact ⟨b, o, rfl, hlt, fun i hi => ⟨_, by rw [← e]; exact hc i (by omega)⟩⟩
theorem ExtentApart_walk (m0 m1 : Nat) (a : Option Addr) (len cap : Nat) (zs : List Int) (w : World) (h0 : m0 < 256) (h1 : m1 < 256) (hr : IsRow .i64 w a len cap zs) :
    Calls Try.prog 4 #[.int .u8 m0, .int .u8 m1, .slice a len cap] w fun e w' => e = .returned (.bool true) ∧ Below w.heap.size w w' :=
  apart_c m0 m1 a cap len w h0 h1 (RI.ofRow hr)
end Go.Proofs.Ytdfgaomlahpblaa.F
