/- Part 36 of the proof: TRk, Rc. -/
import Derived.Test.YtbcamfbbooggfaaGreatQ03
import Derived.ProofKit

section
/- From a row's opened arguments to natural numbers. -/
namespace Go.Proofs.YtbcamfbbooggfaaGreat.F
open Go.RowKit Go.Proofs.YtbcamfbbooggfaaGreatW.PrintWords

def IsRow (k : IntKind) (w : World) (a : Option Addr) (len cap : Nat) (zs : List Int) : Prop :=
  (a = none ∧ len = 0 ∧ cap = 0 ∧ zs = []) ∨
  ∃ x, a = some x ∧ len ≤ cap ∧ cap ≤ maxLen ∧ zs.length = cap ∧ (∀ i, i < zs.length → w.cell? (x.add i) = some (.int k (zs.getD i 0))) ∧ ∀ n ∈ zs, (Lit.int k n).wf = true
theorem list4 {α : Type} {l : List α} (h : l.length = 4) : ∃ a b c d, l = [a, b, c, d] := by
  match l, h with
  | [a, b, c, d], _ => exact ⟨a, b, c, d, rfl⟩
theorem nat_u8 {a : Int} (h : (Lit.int .u8 a).wf = true) : ∃ m : Nat, a = m ∧ m < 256 := by
  simp only [Lit.wf, Bool.and_eq_true, decide_eq_true_eq] at h
  have h1 : IntKind.u8.min = 0 := rfl
  have h2 : IntKind.u8.max = 255 := rfl
  exact ⟨a.toNat, by omega, by omega⟩
theorem nat_u16 {a : Int} (h : (Lit.int .u16 a).wf = true) : ∃ m : Nat, a = m ∧ m < 65536 := by
  simp only [Lit.wf, Bool.and_eq_true, decide_eq_true_eq] at h
  have h1 : IntKind.u16.min = 0 := rfl
  have h2 : IntKind.u16.max = 65535 := rfl
  exact ⟨a.toNat, by omega, by omega⟩
theorem nat_u32 {a : Int} (h : (Lit.int .u32 a).wf = true) : ∃ m : Nat, a = m ∧ m < 4294967296 := by
  simp only [Lit.wf, Bool.and_eq_true, decide_eq_true_eq] at h
  have h1 : IntKind.u32.min = 0 := rfl
  have h2 : IntKind.u32.max = 4294967295 := rfl
  exact ⟨a.toNat, by omega, by omega⟩
theorem nat_u64 {a : Int} (h : (Lit.int .u64 a).wf = true) : ∃ m : Nat, a = m ∧ m < 18446744073709551616 := by
  simp only [Lit.wf, Bool.and_eq_true, decide_eq_true_eq] at h
  have h1 : IntKind.u64.min = 0 := rfl
  have h2 : IntKind.u64.max = 18446744073709551615 := rfl
  exact ⟨a.toNat, by omega, by omega⟩
theorem int_i64 {a : Int} (h : (Lit.int .i64 a).wf = true) : -9223372036854775808 ≤ a ∧ a ≤ 9223372036854775807 := by
  simp only [Lit.wf, Bool.and_eq_true, decide_eq_true_eq] at h
  have h1 : IntKind.i64.min = -9223372036854775808 := rfl
  have h2 : IntKind.i64.max = 9223372036854775807 := rfl
  omega
/-- A row of unsigned numbers, as natural ones. -/
theorem RN.ofRow {k : IntKind} {B : Nat} {w : World} {a : Option Addr} {len cap : Nat} {zs : List Int} (hk : ∀ n : Int, (Lit.int k n).wf = true → ∃ m : Nat, n = m ∧ m < B) (h : IsRow k w a len cap zs) :
    ∃ xs : List Nat, len = xs.length ∧ RN k w a xs ∧ (∀ x ∈ xs, x < B) ∧ xs.length ≤ cap := by
  rcases h with ⟨rfl, rfl, rfl, rfl⟩ | ⟨x, rfl, hl, hm, hz, hc, hw⟩
  · exact ⟨[], rfl, Kd.C_nil _ _, by simp, by simp⟩
  · have hlen : ((zs.take len).map Int.toNat).length = len := by rw [List.length_map, List.length_take]; omega
    refine ⟨(zs.take len).map Int.toNat, hlen.symm, ?_, ?_, by omega⟩
    · unfold RN
      refine Kd.C_of_reads (d := 0) ⟨rfl, by rw [hlen]; unfold maxLen at hm; omega, fun hp => ⟨x, rfl, fun j hj => ?_⟩⟩
      rw [hlen] at hj
      rw [hc j (by omega)]
      have hj2 : j < zs.length := by omega
      obtain ⟨m, hm1, _⟩ := hk _ (hw zs[j] (List.getElem_mem hj2))
      simp [List.getD_eq_getElem?_getD, hj, hj2, encN]
      omega
    · intro y hy
      simp only [List.mem_map] at hy
      obtain ⟨z, hz1, rfl⟩ := hy
      obtain ⟨m, rfl, h2⟩ := hk z (hw z (List.mem_of_mem_take hz1))
      simpa using h2
theorem RN.ofRow_u8 {w : World} {a : Option Addr} {len cap : Nat} {zs : List Int} (h : IsRow .u8 w a len cap zs) : ∃ xs : List Nat, len = xs.length ∧ RN .u8 w a xs ∧ (∀ x ∈ xs, x < 256) ∧ xs.length ≤ cap := RN.ofRow (fun _ => nat_u8) h
end Go.Proofs.YtbcamfbbooggfaaGreat.F
end

section
/- A crash by value, as a row hands it. -/
set_option linter.unusedVariables false
set_option linter.unusedSimpArgs false
set_option maxRecDepth 20000
namespace Go.Proofs.YtbcamfbbooggfaaGreat.F
open Go.RowKit Go.Proofs.YtbcamfbbooggfaaGreatW.PrintWords

theorem cellw_int {W : World} {r : Reach} {base : Nat} {v : Value} (h : Cell.okWide Tryz.prog W r base 3 v) : ∃ n, v = .int .i64 n := by
  unfold Cell.okWide at h
  rw [Tryz.underlying3] at h
  cases v <;> simp only [Cell.ok, Tryz.underlying3] at h <;> try exact h.elim
  rename_i k n
  obtain ⟨rfl, h⟩ := h
  exact ⟨n, rfl⟩
theorem cellw_bools {W : World} {r : Reach} {base : Nat} {v : Value} (h : Cell.okWide Tryz.prog W r base 27 v) : ∃ x n c, v = .slice x n c := by
  unfold Cell.okWide at h
  rw [Tryz.underlying27] at h
  cases v <;> simp only [Cell.ok, Tryz.underlying27] at h <;> try exact h.elim
  exact ⟨_, _, _, rfl⟩
theorem crash_types : Tryz.prog.cellTypes Tryz.prog.depth 29 = some [27, 3, 3] := by kernel_rfl
theorem crash_cells : Tryz.prog.cellsOf 29 = 3 := by kernel_rfl
theorem crash_open {W : World} {r : Reach} {base : Nat} {v : Value} (hv : Value.okWide Tryz.prog W r base 29 v) : ∃ x n c x1 x2, v = .agg #[.slice x n c, .int .i64 x1, .int .i64 x2] := by
  simp only [Value.okWide, Tryz.underlying29] at hv
  obtain ⟨cs, rfl, hsz, ts, hts, _, hall⟩ := hv
  rw [crash_cells] at hsz
  rw [crash_types] at hts
  injection hts with hts
  subst hts
  obtain ⟨ls⟩ := cs
  match ls, hsz with
  | [a, b, c], _ =>
    obtain ⟨u, hu, h0⟩ := hall 0 a rfl
    obtain rfl : 27 = u := by simpa using hu
    obtain ⟨u, hu, h1⟩ := hall 1 b rfl
    obtain rfl : 3 = u := by simpa using hu
    obtain ⟨u, hu, h2⟩ := hall 2 c rfl
    obtain rfl : 3 = u := by simpa using hu
    obtain ⟨x, n, cc, rfl⟩ := cellw_bools h0
    obtain ⟨x1, rfl⟩ := cellw_int h1
    obtain ⟨x2, rfl⟩ := cellw_int h2
    exact ⟨_, _, _, _, _, rfl⟩
end Go.Proofs.YtbcamfbbooggfaaGreat.F
end
