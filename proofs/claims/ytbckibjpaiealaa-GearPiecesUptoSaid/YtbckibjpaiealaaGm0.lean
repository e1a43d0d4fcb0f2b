/- Forks of a cutter, walked. -/
import Derived.Test.YtbckibjpaiealaaGB0
import Derived.Test.YtbckibjpaiealaaGk
set_option linter.unusedVariables false
set_option linter.unusedSimpArgs false
namespace Go.Proofs.Ytbckibjpaiealaa.F
open Go.RowKit Go.Proofs.YtbckibjpaiealaaW.PrintWords
attribute [local go_sem ↓] Go.wp_at_zero Go.wp_at_succ

theorem take_readF {W : World} {A : Option Addr} {p : List Nat} (hr : RN .u8 W A p) : RN .u8 W A (p.take 3000) := by
  by_cases h : 3000 ≤ p.length
  · exact hr.take 3000 h
  · rw [List.take_of_length_le (by omega)]; exact hr
theorem empty_lit (w : World) : OwnN .u8 5 (w.alloc (.cells #[] 5)) w.heap.size (.slice (some ⟨w.heap.size, 0, none⟩) 0 0) [] := by
  have := own_lit_of (enc := encN .u8) w w.heap.size 5 [] (by simp) (by simp)
  simp only [List.map_nil, List.length_nil, encs] at this
  exact this
theorem app_ltF {p q : List Nat} (hp : ∀ x ∈ p, x < 256) (hq : ∀ x ∈ q, x < 256) : ∀ x ∈ p ++ q, x < 256 := fun x hx => by
  rcases List.mem_append.1 hx with h | h
  · exact hp x h
  · exact hq x h
/-- Block B is a cutter that holds xs. -/
def CH (W : World) (B mn av mx : Nat) (tb xs : List Nat) : Prop := ∃ hv base, CU W B mn av mx tb hv (ghash tb xs) false ∧ OwnN .u8 5 W base hv xs
theorem OwnN.block {k : IntKind} {e : TypeId} {W : World} {base : Nat} {v : Value} {xs : List Nat} (h : OwnN k e W base v xs) (j : Nat) (hj : v.ownBlock = some j) : j < W.heap.size ∧ ∃ cs, W.heap[j]? = some (.cells cs e (0, 0)) := (h.typed j hj).2
theorem CH.lt {W : World} {B mn av mx : Nat} {tb xs : List Nat} (h : CH W B mn av mx tb xs) : B < W.heap.size := by
  obtain ⟨hv, base, h1, _⟩ := h
  exact h1.lt
theorem CH.below {W W' : World} {B mn av mx : Nat} {tb xs : List Nat} (h : CH W B mn av mx tb xs) (hb : Below W.heap.size W W') : CH W' B mn av mx tb xs := by
  obtain ⟨hv, base, h1, h2⟩ := h
  exact ⟨hv, base, h1.move (hb.block B h1.lt), h2.kept hb⟩
theorem CH.apart {W W' : World} {B B2 mn av mx : Nat} {tb xs ys : List Nat} (h : CH W B mn av mx tb xs) (h2 : CH W B2 mn av mx tb ys) (hne : B ≠ B2) (hk : KF W.heap.size B2 W W') : CH W' B mn av mx tb xs := by
  obtain ⟨hv, base, h1, h3⟩ := h
  obtain ⟨hv2, base2, g1, _⟩ := h2
  refine ⟨hv, base, h1.move (hk.block B h1.lt hne), h3.move (fun k hk2 => ?_)⟩
  obtain ⟨hlt, cs, hcs⟩ := h3.block k hk2
  exact hk.block k hlt (ne_of_type hcs g1 (by decide))
theorem RN.notC {W W' : World} {B : Nat} {A : Option Addr} {p : List Nat} {N : Nat} (hr : RN .u8 W A p) (hN : ∀ a, A = some a → 0 < p.length → a.block < N) (hB : N ≤ B) (hk : KF W.heap.size B W W') : RN .u8 W' A p :=
  hr.move2 (fun a ha h0 => hk.block a.block (by
    obtain ⟨ad, e, hc⟩ := hr.at 0 h0
    rw [ha] at e
    injection e with e
    subst e
    have := World.block_lt_of_cell? _ _ hc
    rwa [add_blk] at this) (by have := hN a ha h0; omega))
theorem RN.blockLt {W : World} {A : Option Addr} {p : List Nat} (hr : RN .u8 W A p) : ∀ a, A = some a → 0 < p.length → a.block < W.heap.size := fun a ha h0 => by
  obtain ⟨ad, e, hc⟩ := hr.at 0 h0
  rw [ha] at e
  injection e with e
  subst e
  have := World.block_lt_of_cell? _ _ hc
  rwa [add_blk] at this
theorem New_h (mn av mx : Nat) (tb : List Nat) (W : World) (ht : tb.length = 256) (h : cutOk mn av mx = true) :
    Calls Try.prog 19 #[.agg #[.int .i64 mn, .int .i64 av, .int .i64 mx], .agg (tabA tb)] W fun e w' =>
      ∃ B, e = .returned (.tuple #[.pointer (some ⟨B, 0, none⟩), .int .i64 0]) ∧ W.heap.size ≤ B ∧ CH w' B mn av mx tb [] ∧ Below W.heap.size W w' := by
  refine (New_ok mn av mx tb W ht h).mono ?_
  rintro e w' ⟨B, rfl, h1, h2, h3⟩
  exact ⟨B, rfl, h1, ⟨_, 0, h2, OwnN.nil _ _ _ _⟩, h3⟩
/-- Bytes written to a cutter at hand. -/
theorem Write_h (W : World) (B : Nat) (mn av mx : Nat) (tb : List Nat) (xs : List Nat) (A : Option Addr) (c : Nat) (p : List Nat) (ht : tb.length = 256) (hav : 1 ≤ av) (hav2 : av ≤ 256)
    (hc : CH W B mn av mx tb xs) (hr : RN .u8 W A p) (hp : ∀ x ∈ p, x < 256) (hA : ∀ a, A = some a → 0 < p.length → a.block < W.heap.size ∧ a.block ≠ B) (hl : (xs.length + p.length + 1) * 24 ≤ 140737488355328) :
    Calls Try.prog 20 #[.pointer (some ⟨B, 0, none⟩), .slice A p.length c] W fun e w' =>
      ∃ vo okc, e = .returned (.tuple #[vo, .int .i64 0]) ∧ SRow w' okc W.heap.size 32 vo (p.foldl (gstep mn av mx tb) ([], xs)).1 ∧ (∀ k, okc k → W.heap.size ≤ k) ∧ 
        CH w' B mn av mx tb (p.foldl (gstep mn av mx tb) ([], xs)).2 ∧ KF W.heap.size B W w' := by
  obtain ⟨hv, base, h1, h2⟩ := hc
  refine (Write_c W base B mn av mx tb hv xs A c p ht hav hav2 h1 h2 hr hp hA hl).mono ?_
  rintro e w' ⟨vo, okc, hv', rfl, g1, g2, g3, g4, g5⟩
  exact ⟨vo, okc, rfl, g1, fun k hk => (g2 k hk).1, ⟨hv', _, g3, g4⟩, g5⟩
theorem Fork_h (W : World) (B : Nat) (mn av mx : Nat) (tb : List Nat) (xs : List Nat) (ht : tb.length = 256) (hc : CH W B mn av mx tb xs) (hl : xs.length ≤ 140737488355328) :
    Calls Try.prog 23 #[.pointer (some ⟨B, 0, none⟩)] W fun e w' =>
      ∃ B', e = .returned (.pointer (some ⟨B', 0, none⟩)) ∧ W.heap.size ≤ B' ∧ CH w' B' mn av mx tb xs ∧ Below W.heap.size W w' := by
  obtain ⟨hv, base, h1, h2⟩ := hc
  refine (ForkG_c W base B mn av mx tb hv xs _ false ht h1 h2 hl).mono ?_
  rintro e w' ⟨B', hv', rfl, g1, g2, g3, g4⟩
  exact ⟨B', rfl, g1, ⟨hv', _, g2, g3⟩, g4⟩
theorem Held_h (W : World) (B : Nat) (mn av mx : Nat) (tb : List Nat) (xs : List Nat) (ht : tb.length = 256) (hc : CH W B mn av mx tb xs) :
    Calls Try.prog 21 #[.pointer (some ⟨B, 0, none⟩)] W fun e w' => e = .returned (.int .i64 xs.length) ∧ w' = W := by
  obtain ⟨hv, base, h1, h2⟩ := hc
  exact Held_c W base B mn av mx tb hv xs _ false ht h1 h2
theorem fold_len {mn av mx : Nat} {tb p xs : List Nat} (h1 : 1 ≤ mn) (h2 : mn ≤ mx) (hx : xs.length < mx) : (p.foldl (gstep mn av mx tb) ([], xs)).2.length < mx ∧ (p.foldl (gstep mn av mx tb) ([], xs)).1.flatten.length ≤ xs.length + p.length := by
  have h := gfold_inv (av := av) (tb := tb) h1 h2 p ([], xs) ⟨by simp, by simpa using hx⟩
  refine ⟨h.1.2, ?_⟩
  have h3 := congrArg List.length h.2
  simp only [List.length_append, List.flatten_nil, List.length_nil] at h3
  omega
end Go.Proofs.Ytbckibjpaiealaa.F
