/- A slot by value, as a row hands it. -/
import Derived.Test.YtejmklfhcealnaaKr
import Derived.ProofKit
set_option linter.unusedVariables false
set_option linter.unusedSimpArgs false
set_option maxRecDepth 20000
namespace Go.Proofs.Ytejmklfhcealnaa.F
open Go.RowKit Go.Proofs.YtejmklfhcealnaaW.PrintWords

def vN : Value → Nat
  | .int _ n => n.toNat
  | _ => 0
theorem cell_u8 {W : World} {r : Reach} {base : Nat} {v : Value} (h : Cell.okWide Try.prog W r base 5 v) : v = encN .u8 (vN v) ∧ vN v < 256 := by
  unfold Cell.okWide at h
  rw [Try.underlying5] at h
  cases v <;> simp only [Cell.ok, Try.underlying5] at h <;> try exact h.elim
  rename_i k n
  obtain ⟨rfl, h⟩ := h
  have h2 : 0 ≤ n ∧ n ≤ 255 := h
  have e : ((n.toNat : Nat) : Int) = n := by omega
  refine ⟨?_, ?_⟩
  · show Value.int .u8 n = Value.int .u8 ((n.toNat : Nat) : Int)
    rw [e]
  · show n.toNat < 256
    omega
theorem cell_int {W : World} {r : Reach} {base : Nat} {v : Value} (h : Cell.okWide Try.prog W r base 3 v) : ∃ n, v = .int .i64 n ∧ -9223372036854775808 ≤ n ∧ n ≤ 9223372036854775807 := by
  unfold Cell.okWide at h
  rw [Try.underlying3] at h
  cases v <;> simp only [Cell.ok, Try.underlying3] at h <;> try exact h.elim
  rename_i k n
  obtain ⟨rfl, h⟩ := h
  have h2 : -9223372036854775808 ≤ n ∧ n ≤ 9223372036854775807 := h
  exact ⟨n, rfl, h2⟩
theorem slot_types : Try.prog.cellTypes Try.prog.depth 38 = some (List.replicate 32 5 ++ [3, 3]) := by kernel_rfl
theorem slot_cells : Try.prog.cellsOf 38 = 34 := by kernel_rfl
theorem slot_open {W : World} {r : Reach} {base : Nat} {v : Value} (hv : Value.okWide Try.prog W r base 38 v) :
    ∃ q a n, v = .agg (slV q a n) ∧ q.length = 32 ∧ (∀ x ∈ q, x < 256) ∧ (-9223372036854775808 ≤ a ∧ a ≤ 9223372036854775807) ∧ (-9223372036854775808 ≤ n ∧ n ≤ 9223372036854775807) := by
  simp only [Value.okWide, Try.underlying38] at hv
  obtain ⟨cs, rfl, hsz, ts, hts, _, hall⟩ := hv
  rw [slot_cells] at hsz
  rw [slot_types] at hts
  injection hts with hts
  subst hts
  have hl : (List.replicate 32 5 ++ [3, 3]).length = 34 := rfl
  rw [hl] at hall
  have h32 : ∀ i, i < 32 → ∃ m, cs[i]? = some (encN .u8 m) ∧ m < 256 ∧ m = vN (cs.getD i undef) := fun i hi => by
    have hg : cs[i]? = some cs[i] := Array.getElem?_eq_getElem (by omega)
    obtain ⟨u, hu, hc⟩ := hall i _ hg
    rw [Nat.mod_eq_of_lt (by omega), List.getElem?_append_left (by simpa using hi), List.getElem?_replicate, if_pos hi] at hu
    injection hu with hu
    subst hu
    obtain ⟨h1, h2⟩ := cell_u8 hc
    refine ⟨vN cs[i], by rw [hg, ← h1], h2, ?_⟩
    simp [Array.getD_eq_getD_getElem?, hg]
  have hi : ∀ i, 32 ≤ i → i < 34 → ∃ n, cs[i]? = some (.int .i64 n) ∧ -9223372036854775808 ≤ n ∧ n ≤ 9223372036854775807 := fun i h1 h2 => by
    have hg : cs[i]? = some cs[i] := Array.getElem?_eq_getElem (by omega)
    obtain ⟨u, hu, hc⟩ := hall i _ hg
    have hut : u = 3 := by
      rw [Nat.mod_eq_of_lt (by omega), List.getElem?_append_right (by simpa using h1)] at hu
      rw [List.length_replicate] at hu
      have h3 : i - 32 = 0 ∨ i - 32 = 1 := by omega
      rcases h3 with h3 | h3 <;> (rw [h3] at hu; simp at hu; exact hu.symm)
    subst hut
    obtain ⟨n, h1, h2⟩ := cell_int hc
    exact ⟨n, by rw [hg, h1], h2⟩
  obtain ⟨a, ha, ha2⟩ := hi 32 (by omega) (by omega)
  obtain ⟨n, hn, hn2⟩ := hi 33 (by omega) (by omega)
  refine ⟨(List.range 32).map fun i => vN (cs.getD i undef), a, n, ?_, by simp, ?_, ha2, hn2⟩
  · refine congrArg Value.agg ?_
    apply Array.ext_getElem?
    intro i
    unfold slV
    conv => rhs; rw [List.getElem?_toArray]
    by_cases h1 : i < 32
    · obtain ⟨m, h2, _, h3⟩ := h32 i h1
      subst h3
      rw [h2, List.getElem?_append_left (by simpa using h1)]
      simp [h1]
    · rw [List.getElem?_append_right (by simp; omega)]
      simp only [List.length_map, List.length_range]
      by_cases h2 : i = 32
      · subst h2
        rw [ha]; rfl
      · by_cases h3 : i = 33
        · subst h3
          rw [hn]; rfl
        · rw [Array.getElem?_eq_none (by omega), List.getElem?_eq_none (by simp; omega)]
  · intro x hx
    obtain ⟨i, hi2, rfl⟩ := List.mem_map.1 hx
    obtain ⟨m, _, h2, h3⟩ := h32 i (List.mem_range.1 hi2)
    rw [← h3]
    exact h2
end Go.Proofs.Ytejmklfhcealnaa.F
