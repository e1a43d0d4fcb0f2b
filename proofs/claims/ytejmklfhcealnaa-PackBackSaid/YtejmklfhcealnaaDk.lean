/- Arrays told by their places; a sum's bytes. -/
import Derived.Test.YtejmklfhcealnaaDg2
import Derived.Test.YtejmklfhcealnaaDx
set_option linter.unusedVariables false
set_option linter.unusedSimpArgs false
set_option maxRecDepth 20000
namespace Go.Proofs.Ytejmklfhcealnaa.F
open Go.RowKit Go.Proofs.YtejmklfhcealnaaW.PrintWords

/-- An array of m numbers, each told by its place. -/
def tabK (k : IntKind) (m : Nat) (f : Nat → Nat) : Array Value := ((List.range m).map fun i => encN k (f i)).toArray
theorem tabK_size (k : IntKind) (m : Nat) (f : Nat → Nat) : (tabK k m f).size = m := by simp [tabK]
theorem tabK_get (k : IntKind) (m : Nat) (f : Nat → Nat) (i : Nat) (h : i < m) : (tabK k m f)[i]? = some (.int k (f i : Nat)) := by simp [tabK, h, encN]
theorem tabK_set (k : IntKind) (m : Nat) (f : Nat → Nat) (i x : Nat) (h : i < m) : (tabK k m f).setIfInBounds i (.int k (x : Nat)) = tabK k m (upd f i x) := by
  apply Array.ext_getElem?
  intro j
  by_cases hj : j < m
  · rw [tabK_get _ _ _ j hj]
    by_cases e : i = j
    · subst e
      rw [Array.getElem?_setIfInBounds_self_of_lt (by rw [tabK_size]; exact hj)]
      simp [upd]
    · rw [Array.getElem?_setIfInBounds_ne e, tabK_get _ _ _ j hj]
      simp [upd, Ne.symm e]
  · rw [Array.getElem?_eq_none (by simp [tabK_size]; omega), Array.getElem?_eq_none (by rw [tabK_size]; omega)]
theorem tabK_one (k : IntKind) (m : Nat) (f : Nat → Nat) : (tabK k m f).all (·.oneCell') = true := by simp [tabK, encN, Value.oneCell']
theorem tabK_congr {k : IntKind} {m : Nat} {f g : Nat → Nat} (h : ∀ i, i < m → f i = g i) : tabK k m f = tabK k m g := by
  unfold tabK
  congr 1
  exact List.map_congr_left fun i hi => by rw [h i (List.mem_range.1 hi)]
theorem tabK_store {W : World} {g t : Nat} {k : IntKind} {m : Nat} {f : Nat → Nat} {i x : Nat} (h : W.heap[g]? = some (.cells (tabK k m f) t (0, 0))) (hi : i < m) :
    (W.setCell ⟨g, i, none⟩ (.int k (x : Nat))).heap[g]? = some (.cells (tabK k m (upd f i x)) t (0, 0)) := by
  rw [heap_setCell_same _ _ _ _ _ _ h, tabK_set k m f i x hi]
theorem tabK_cell {W : World} {g t : Nat} {k : IntKind} {m : Nat} {f : Nat → Nat} (h : W.heap[g]? = some (.cells (tabK k m f) t (0, 0))) (i : Nat) (hi : i < m) : W.cell? ⟨g, i, none⟩ = some (.int k (f i : Nat)) := by
  rw [cell_of_row _ _ _ _ _ _ h]; exact tabK_get k m f i hi
theorem tabK_free {W : World} {g t : Nat} {k : IntKind} {m : Nat} {f : Nat → Nat} (h : W.heap[g]? = some (.cells (tabK k m f) t (0, 0))) (i : Nat) : W.frozen? ⟨g, i, none⟩ = false := frozen_of_row _ _ _ _ _ h

/-- The i-th byte of a state. -/
def byteS (s : St) (i : Nat) : Nat := s.at (i / 4) / 2 ^ (24 - 8 * (i % 4)) % 256
/-- A text's sum, by its bytes. -/
def shaB (p : List Nat) (i : Nat) : Nat := byteS (mixes beginS (p ++ padN p.length) ((p.length + (padN p.length).length) / 64)) i
def shaA (p : List Nat) : Array Value := tabK .u8 32 (shaB p)
def zeros32 : Array Value := tabK .u8 32 fun _ => 0
theorem zero32 : ∀ W : World, Sem.run Try.prog (zeroValue 36) W = .ok (.agg zeros32) W := fun _ => by kernel_rfl
theorem info32 : (Try.prog.info? 36).map (·.size) = some 32 := by kernel_rfl
def fillB (s : St) (i : Nat) : Nat → Nat := fun j => if j < i then byteS s j else 0
theorem fillB_zero (s : St) : (fun _ => 0 : Nat → Nat) = fillB s 0 := by funext j; simp [fillB]
theorem fillB_step (s : St) (i : Nat) : upd (fillB s i) i (byteS s i) = fillB s (i + 1) := by
  funext j
  unfold upd fillB
  by_cases h : j = i
  · subst h; simp
  · rw [if_neg h]
    by_cases h1 : j < i
    · rw [if_pos h1, if_pos (by omega)]
    · rw [if_neg h1, if_neg (by omega)]
theorem fillB_all (s : St) : tabK .u8 32 (fillB s 32) = tabK .u8 32 (byteS s) := tabK_congr fun i hi => by simp [fillB, hi]
theorem padN_eq (n : Nat) : padN n = 128 :: List.replicate ((119 - n % 64) % 64) 0 ++ bigN 8 (8 * n) := by
  unfold padN bigN
  congr 1
  apply List.map_congr_left
  intro i hi
  have := List.mem_range.1 hi
  rw [show (256 : Nat) ^ (8 - 1 - i) = 2 ^ (56 - 8 * i) by rw [show (256 : Nat) = 2 ^ 8 from rfl, ← Nat.pow_mul]; congr 1; omega, Nat.mul_comm n 8]
theorem tail_len (p : List Nat) : (p.drop (64 * (p.length / 64))).length = p.length % 64 := by rw [List.length_drop]; omega
/-- From a state in the midst on. -/
theorem sha_on (p : List Nat) : mixes beginS (p ++ padN p.length) ((p.length + (padN p.length).length) / 64) =
    mixes (mixes beginS p (p.length / 64)) (p.drop (64 * (p.length / 64)) ++ padN p.length) ((p.drop (64 * (p.length / 64)) ++ padN p.length).length / 64) := by
  have hl : (p.length + (padN p.length).length) / 64 = p.length / 64 + (p.drop (64 * (p.length / 64)) ++ padN p.length).length / 64 := by
    have := tail_len p
    rw [List.length_append, this]
    omega
  rw [hl, mixes_add, mixes_app _ _ _ _ (by omega), List.drop_append_of_le_length (by omega)]
end Go.Proofs.Ytejmklfhcealnaa.F
