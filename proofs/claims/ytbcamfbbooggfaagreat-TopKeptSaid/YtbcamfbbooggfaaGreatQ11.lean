/- Part 11 of the proof: TK4, TEa, TEc, TEd, TEe, TEf, TEh. -/
import Derived.Test.YtbcamfbbooggfaaGreatQ09
import Derived.Test.YtbcamfbbooggfaaGreatQ06
import Derived.Deep.Cut
import Derived.Deep.CutRange
import Derived.Deep.DrawnRows
import Derived.Laws.BitsAllLaws
import Derived.Test.YtbcamfbbooggfaaGreatQ10
import Derived.Lib.SlBytesConst
import Derived.Lib.Hide
import Derived.Test.YtbcamfbbooggfaaGreatQ03
import Derived.Laws.OwnMore
import Derived.Laws.CopyOwn
import Derived.Lib.AppendZeros
import Derived.Lib.AppendZerosOnto
import Derived.Lib.Overlaps
import Derived.Maps.AppendAt
import Derived.Laws.Externs
import Derived.Laws.NewBlocks
import Derived.Deep.RegionLaw
import Derived.StillTailTactics

section
/- The document adds a chunk. -/
set_option linter.unusedVariables false
set_option linter.unusedSimpArgs false
namespace Go.Proofs.YtbcamfbbooggfaaGreat.F
open Go.RowKit Go.Proofs.YtbcamfbbooggfaaGreatW.PrintWords
attribute [local go_sem ↓] Go.wp_at_zero Go.wp_at_succ

theorem strN_eq (xs : List Nat) : strN xs = bstr xs := by
  unfold strN bstr strOfNums
  rw [List.map_map]
  rfl
theorem run_append_RV {P : Program} {W : World} (base : Nat) (t ty e : TypeId) (z : Value) (size bytes : Nat) (ht : P.underlying t = some (.slice e)) (hinfo : (P.info? e).map (fun i => (i.zero, i.size, i.bytes)) = some (some z, size, bytes)) (hzs : z.cells.size = size) (hsz : 0 < size)
    (v : Value) (n : Nat) (F : List Value) (A : Option Addr) (m c : Nat) (G : List Value) (HO : W.ownsRow base e size v n F) (HR : RV e W A m G) (hG : G.length = m * size) (hone : ∀ u ∈ G, u.oneCell' = true)
    (hbase : base ≤ W.heap.size) (hl : (n + m) * bytes ≤ 140737488355328) (hl2 : n + m ≤ 140737488355328) :
    ∃ v1 w1, (Builtin.append_ #[t, t] ty #[v, .slice A m c]).run P W = .ok v1 w1 ∧ w1.ownsRow base e size v1 (n + m) (F ++ G) ∧ W.grownBy w1 v.ownBlock := by
  obtain ⟨i0, hi, hz0, hz1, hz2⟩ := info_parts hinfo
  cases A with
  | none =>
    have h0 : m = 0 := by
      rcases Nat.eq_zero_or_pos m with h | h
      · exact h
      · obtain ⟨g, o, e, _⟩ := HR.2 h
        cases e
    subst h0
    have hG0 : G = [] := List.eq_nil_of_length_eq_zero (by simpa using hG)
    subst hG0
    refine ⟨v, W, ?_, by simpa using HO, World.grownBy.refl W _⟩
    rcases HO.2 with ⟨rfl, hn⟩ | ⟨g, cap, cur, rfl, _, _, hnc, _⟩
    · subst hn
      simp [Builtin.append_, run_underlying ht, sizeOf, typeInfo, hi, Builtin.lenOf, Builtin.firstCells]
    · simp [Builtin.append_, run_underlying ht, sizeOf, typeInfo, hi, Builtin.lenOf, Builtin.firstCells, hnc, storeCells]
  | some ad =>
    have hcells : ∀ j u, G[j]? = some u → W.cell? (ad.add j) = some u := by
      intro j u hu
      have hp : 0 < m := by
        rcases Nat.eq_zero_or_pos m with h | h
        · subst h
          have h0 : G = [] := List.eq_nil_of_length_eq_zero (by simpa using hG)
          rw [h0] at hu
          simp at hu
        · exact h
      obtain ⟨g, o, e, _, hc⟩ := HR.2 hp
      cases e
      rw [Addr.add_lit]
      exact hc j u hu
    obtain ⟨v1, w1, hr, h2, h3, _⟩ := run_append_own_at (P := P) W base t ty e i0 z size bytes ht hi hz0 hz1 hz2 hzs hsz v n F HO ad m c G hG hcells hone (by simp only [maxLen]; omega) hl hbase
    exact ⟨v1, w1, hr, h2, h3⟩
section
variable {P : Program} {ops : Array Oper} {rest : List Oper} {o : Oper} {a : Act} {Q : Exit → Act → World → Prop} {K : Act → World → Prop}
theorem wp_append_RV {W : World} (base : Nat) (s x : Operand) (t e : TypeId) (z : Value) (size bytes : Nat)
    (ho : o.op = .call { callee := .builtin .append, args := #[s, x], argTypes := #[t, t] })
    (ht : P.underlying t = some (.slice e)) (hinfo : (P.info? e).map (fun i => (i.zero, i.size, i.bytes)) = some (some z, size, bytes)) (hzs : z.cells.size = size) (hsz : 0 < size)
    (v : Value) (n : Nat) (F : List Value) (A : Option Addr) (m c : Nat) (G : List Value) (hs : a.eval s = v) (hx : a.eval x = .slice A m c) (HO : W.ownsRow base e size v n F) (HR : RV e W A m G) (hG : G.length = m * size) (hone : ∀ u ∈ G, u.oneCell' = true)
    (hbase : base ≤ W.heap.size) (hl : (n + m) * bytes ≤ 140737488355328) (hl2 : n + m ≤ 140737488355328)
    (h : ∀ v1 w1, w1.ownsRow base e size v1 (n + m) (F ++ G) → W.grownBy w1 v.ownBlock → K (a.put o.dst v1) w1) : Oper.wp P o a W K Q := by
  obtain ⟨v1, w1, hr, h1, h2⟩ := run_append_RV base t o.type e z size bytes ht hinfo hzs hsz v n F A m c G HO HR hG hone hbase hl hl2
  exact Go.Lib.wp_append_run W s x _ _ ho _ _ hs hx v1 w1 hr (h v1 w1 h1 h2)
theorem wpList_append_RV {W : World} (base : Nat) (hgd : o.guard = none) (s x : Operand) (t e : TypeId) (z : Value) (size bytes : Nat)
    (ho : o.op = .call { callee := .builtin .append, args := #[s, x], argTypes := #[t, t] })
    (ht : P.underlying t = some (.slice e)) (hinfo : (P.info? e).map (fun i => (i.zero, i.size, i.bytes)) = some (some z, size, bytes)) (hzs : z.cells.size = size) (hsz : 0 < size)
    (v : Value) (n : Nat) (F : List Value) (A : Option Addr) (m c : Nat) (G : List Value) (hs : a.eval s = v) (hx : a.eval x = .slice A m c) (HO : W.ownsRow base e size v n F) (HR : RV e W A m G) (hG : G.length = m * size) (hone : ∀ u ∈ G, u.oneCell' = true)
    (hbase : base ≤ W.heap.size) (hl : (n + m) * bytes ≤ 140737488355328) (hl2 : n + m ≤ 140737488355328)
    (h : ∀ v1 w1, w1.ownsRow base e size v1 (n + m) (F ++ G) → W.grownBy w1 v.ownBlock → wpList P ops Q rest (a.put o.dst v1) w1) : wpList P ops Q (o :: rest) a W :=
  wpList_plain hgd fun _ hK => wp_append_RV base s x t e z size bytes ho ht hinfo hzs hsz v n F A m c G hs hx HO HR hG hone hbase hl hl2 (fun v1 w1 h1 h2 => hK _ _ (h v1 w1 h1 h2))
end
theorem RV.one (t : TypeId) (w : World) (u : Value) : RV t (w.alloc (.cells #[u] t)) (some ⟨w.heap.size, 0, none⟩) 1 [u] :=
  ⟨by omega, fun _ => ⟨w.heap.size, 0, rfl, ⟨_, _, heap_alloc_new w _⟩, fun j x hx => by
    rw [cell_of_row _ _ _ _ _ _ (heap_alloc_new w _), Nat.zero_add]
    simpa using hx⟩⟩
theorem RV.grown {t : TypeId} {W W' : World} {A : Option Addr} {n : Nat} {flat : List Value} {base : Nat} {e : TypeId} {k m : Nat} {v : Value} {F : List Value} (h : RV t W A n flat) (hg : W.grownBy W' v.ownBlock) (ho : W.ownsRow base e k v m F) (hne : 0 < n → ∀ g o, A = some ⟨g, o, none⟩ → v.ownBlock ≠ some g) : RV t W' A n flat := by
  refine ⟨h.1, fun hp => ?_⟩
  obtain ⟨g, o, e, ⟨cs, x, hh⟩, hc⟩ := h.2 hp
  have hb := hg.block g (Array.getElem?_eq_some_iff.1 hh).1 (fun e' => hne hp g o e e'.symm)
  exact ⟨g, o, e, ⟨cs, x, hb.trans hh⟩, fun j u hu => (cell_move (a := ⟨g, o + j, none⟩) hb).trans (hc j u hu)⟩
theorem addErr_fits (wide : Nat) (L : List (List Nat)) (p : List Nat) (h1 : 1 ≤ p.length) (h2 : p.length ≤ 512) (h3 : L.length < 64) (hw : 1 ≤ wide) :
    (128 + (L ++ [p]).flatten.length + 34 * (L ++ [p]).length ≤ 128 * wide) ↔ ¬ roomN wide L.length L.flatten.length < p.length := by
  have e1 : (L ++ [p]).flatten.length = L.flatten.length + p.length := by simp
  have e2 : (L ++ [p]).length = L.length + 1 := by simp
  rw [e1, e2]
  unfold roomN
  rw [if_neg (by omega)]
  omega
end Go.Proofs.YtbcamfbbooggfaaGreat.F

/- Both packers, with chunks. -/
set_option linter.unusedVariables false
set_option linter.unusedSimpArgs false
namespace Go.Proofs.YtbcamfbbooggfaaGreat.F
open Go.RowKit Go.Proofs.YtbcamfbbooggfaaGreatW.PrintWords

/-- The chunks fit into so many sectors. -/
def Fit (wide : Nat) (L : List (List Nat)) : Prop := 128 + L.flatten.length + 34 * L.length ≤ 128 * wide
theorem Chunks.snoc {wide : Nat} {L : List (List Nat)} {p : List Nat} (h : Chunks L) (hp : ∀ x ∈ p, x < 256) (hok : addErr wide L.length L.flatten.length p.length = 0) (hw : 1 ≤ wide) : Chunks (L ++ [p]) ∧ Fit wide (L ++ [p]) := by
  unfold addErr at hok
  split at hok
  · simp at hok
  · rename_i h1
    split at hok
    · simp at hok
    · rename_i h2
      split at hok
      · simp at hok
      · rename_i h3
        have h4 := h.1
        refine ⟨⟨by simp; omega, fun q hq => ?_⟩, (addErr_fits wide L p (by omega) (by omega) (by omega) hw).2 h3⟩
        rcases List.mem_append.1 hq with hq | hq
        · exact h.2 q hq
        · rw [List.mem_singleton] at hq
          subst hq
          exact ⟨by omega, by omega, hp⟩
section
variable {sum : List Nat → List Nat} {W W' : World} {b id wide : Nat} {L : List (List Nat)} {S S' : Nat → Prop}
theorem PK.d (h : PK sum W b id wide L) : PKd sum (fun g => g < W.heap.size) W b id wide L := by
  obtain ⟨A, c, A2, c2, F, hF, h1, h2, h3, h4, h5⟩ := h
  refine ⟨A, c, A2, c2, F, hF, h1, h2, h3, h4, h5, fun hp => ?_⟩
  obtain ⟨g, o, e, ⟨cs, x, hh⟩, _⟩ := h3.2 hp
  exact ⟨g, o, e, (Array.getElem?_eq_some_iff.1 hh).1⟩
theorem PKd.pk (h : PKd sum S W b id wide L) : PK sum W b id wide L := by
  obtain ⟨A, c, A2, c2, F, hF, h1, h2, h3, h4, h5, _⟩ := h
  exact ⟨A, c, A2, c2, F, hF, h1, h2, h3, h4, h5⟩
theorem PKd.imp (h : PKd sum S W b id wide L) (hs : ∀ g, S g → S' g) : PKd sum S' W b id wide L := by
  obtain ⟨A, c, A2, c2, F, hF, h1, h2, h3, h4, h5, h6⟩ := h
  exact ⟨A, c, A2, c2, F, hF, h1, h2, h3, h4, h5, fun hp => by obtain ⟨g, o, e, h⟩ := h6 hp; exact ⟨g, o, e, hs g h⟩⟩
theorem PKd.move (h : PKd sum S W b id wide L) (hm : ∀ (g : Nat) (cs : Array Value) (t : Nat) (x : Nat × Nat), (t = 117 ∨ t = 5 ∧ S g ∨ t = 115 ∧ g = b) → W.heap[g]? = some (Obj.cells cs t x) → W'.heap[g]? = W.heap[g]?) : PKd sum S W' b id wide L := by
  obtain ⟨A, c, A2, c2, F, hF, h1, h2, h3, h4, h5, h6⟩ := h
  refine ⟨A, c, A2, c2, F, hF, (hm _ _ _ _ (.inr (.inr ⟨rfl, rfl⟩)) h1).trans h1, h2.move (fun g cs x hh => hm g cs _ x (.inl rfl) hh), ⟨h3.1, fun hp => ?_⟩, h4, h5, h6⟩
  obtain ⟨g, o, e, ⟨cs, x, hh⟩, hc⟩ := h3.2 hp
  obtain ⟨g', o', e', hS⟩ := h6 hp
  rw [e] at e'
  cases e'
  have hg := hm g cs _ x (.inr (.inl ⟨rfl, hS⟩)) hh
  exact ⟨g, o, e, ⟨cs, x, hg.trans hh⟩, fun j u hu => (cell_move (a := ⟨g, o + j, none⟩) hg).trans (hc j u hu)⟩
theorem PKd.below (h : PKd sum S W b id wide L) (hb : Below W.heap.size W W') : PKd sum S W' b id wide L := h.move (fun g cs t x _ hh => hb.block g (Array.getElem?_eq_some_iff.1 hh).1)
/-- Another row of bytes is changed. -/
theorem PKd.bytes {v : Value} (h : PKd sum S W b id wide L) (hg : Gr (fun k => v.ownBlock = some k) W W') (hv : ∀ k, v.ownBlock = some k → (∃ cs z, W.heap[k]? = some (.cells cs 5 z)) ∧ ¬ S k) : PKd sum S W' b id wide L :=
  h.move (fun g cs t x ht hh => hg.block g (Array.getElem?_eq_some_iff.1 hh).1 (fun e => by
    obtain ⟨⟨cs', z, h1⟩, h2⟩ := hv g e
    rw [h1] at hh
    injection hh with hh
    injection hh with _ h3 _
    subst h3
    rcases ht with ht | ⟨_, ht⟩ | ⟨ht, _⟩
    · exact absurd ht (by decide)
    · exact h2 ht
    · exact absurd ht (by decide)))
theorem PK.block (h : PK sum W b id wide L) : ∃ cs, W.heap[b]? = some (.cells cs 115 (0, 0)) := by obtain ⟨A, c, A2, c2, F, hF, h1, _⟩ := h; exact ⟨_, h1⟩
end
/-- What Add answers, and the chunks that are then there. -/
def ansN (E : Int) (n : Nat) : Int := if E = 0 then (n : Int) else 0
def ansL (E : Int) (L : List (List Nat)) (p : List Nat) : List (List Nat) := if E = 0 then L ++ [p] else L
theorem Add_any (S : Nat → Prop) (b id wide : Nat) (L : List (List Nat)) (A : Option Addr) (c : Nat) (p : List Nat) (w : World) (h : PKd sumN S w b id wide L) (hw1 : 1 ≤ wide) (hw2 : wide ≤ 64) (hL : L.length ≤ 64) (hF : L.flatten.length ≤ 32768) (hr : RN .u8 w A p) (hp : ∀ x ∈ p, x < 256) :
    Calls Tryz.prog 14 #[.pointer (some ⟨b, 0, none⟩), .slice A p.length c] w fun e w' =>
      e = .returned (.tuple #[.int .i64 (ansN (addErr wide L.length L.flatten.length p.length) L.length), .int .i64 (addErr wide L.length L.flatten.length p.length)]) ∧
      PKd sumN (fun g => S g ∨ w.heap.size ≤ g) w' b id wide (ansL (addErr wide L.length L.flatten.length p.length) L p) ∧ Gr (fun k => k = b) w w' := by
  by_cases hE : addErr wide L.length L.flatten.length p.length = 0
  · refine (Add_ok b id wide L A c p w h.pk hw1 hw2 hL hF hr hp hE).mono fun e w' ⟨h1, h2, h3⟩ => ?_
    unfold ansN ansL
    rw [if_pos hE, if_pos hE, hE]
    exact ⟨h1, h2.imp (fun g hg => .inr hg), h3⟩
  · refine (Add_bad sumN b id wide L A c p.length w h.pk hw1 hw2 hL hF (by have := hr.max; omega) hE).mono fun e w' ⟨h1, h2⟩ => ?_
    unfold ansN ansL
    rw [if_neg hE, if_neg hE]
    exact ⟨h1, (h.below h2).imp (fun g hg => .inl hg), Gr.of_below _ h2⟩
theorem ansL_ok {wide : Nat} {L : List (List Nat)} {p : List Nat} (h : Chunks L) (hf : Fit wide L) (hp : ∀ x ∈ p, x < 256) (hw : 1 ≤ wide) : Chunks (ansL (addErr wide L.length L.flatten.length p.length) L p) ∧ Fit wide (ansL (addErr wide L.length L.flatten.length p.length) L p) := by
  unfold ansL
  by_cases hE : addErr wide L.length L.flatten.length p.length = 0
  · rw [if_pos hE]
    exact h.snoc hp hE hw
  · rw [if_neg hE]
    exact ⟨h, hf⟩
end Go.Proofs.YtbcamfbbooggfaaGreat.F
end

section
/- The plain law of extent: runs of free sectors, and a truth for each sector. -/
set_option linter.unusedVariables false
set_option linter.unusedSimpArgs false
namespace Go.Proofs.YtbcamfbbooggfaaGreat.F

/-- A run: where it begins, how many sectors it has. -/
abbrev Rn := Nat × Nat
/-- A part cut out of a run. -/
def pieces (r : Rn) (a n : Nat) : List Rn := (if r.1 < a then [(r.1, a - r.1)] else []) ++ (if a + n < r.1 + r.2 then [(a + n, r.1 + r.2 - (a + n))] else [])
def cutL (l : List Rn) (i a n : Nat) : List Rn := l.take i ++ pieces (l.getD i (0, 0)) a n ++ l.drop (i + 1)
end Go.Proofs.YtbcamfbbooggfaaGreat.F
end

section
/- Words for extent's walks; a run is looked for. -/
set_option linter.unusedVariables false
set_option linter.unusedSimpArgs false
namespace Go.Proofs.YtbcamfbbooggfaaGreat.F
open Go.RowKit Go.Proofs.YtbcamfbbooggfaaGreatW.PrintWords

def flatR : List Rn → List Value
  | [] => []
  | r :: l => .int .i64 (r.1 : Nat) :: .int .i64 (r.2 : Nat) :: flatR l
theorem flatR_len : ∀ l : List Rn, (flatR l).length = l.length * 2
  | [] => rfl
  | r :: l => by simp [flatR, flatR_len l]; omega
theorem flatR_append : ∀ l m : List Rn, flatR (l ++ m) = flatR l ++ flatR m
  | [], m => rfl
  | r :: l, m => by simp [flatR, flatR_append l m]
theorem flatR_take : ∀ (l : List Rn) (n : Nat), (flatR l).take (n * 2) = flatR (l.take n)
  | [], n => by simp [flatR]
  | r :: l, 0 => by simp [flatR]
  | r :: l, n + 1 => by rw [show (n + 1) * 2 = n * 2 + 1 + 1 by omega]; simp [flatR, flatR_take l n]
theorem flatR_drop : ∀ (l : List Rn) (n : Nat), (flatR l).drop (n * 2) = flatR (l.drop n)
  | [], n => by simp [flatR]
  | r :: l, 0 => by simp [flatR]
  | r :: l, n + 1 => by rw [show (n + 1) * 2 = n * 2 + 1 + 1 by omega]; simp [flatR, flatR_drop l n]
theorem flatR_get : ∀ (l : List Rn) (i : Nat) (h : i < l.length), (flatR l)[i * 2]? = some (.int .i64 (l[i].1 : Nat)) ∧ (flatR l)[i * 2 + 1]? = some (.int .i64 (l[i].2 : Nat))
  | [], i, h => by simp at h
  | r :: l, 0, h => ⟨rfl, rfl⟩
  | r :: l, i + 1, h => by
    have := flatR_get l i (by simpa using h)
    rw [show (i + 1) * 2 = i * 2 + 1 + 1 by omega]
    simpa [flatR] using this
theorem flatR_one : ∀ (l : List Rn), ∀ u ∈ flatR l, u.oneCell' = true
  | [], u, h => by simp [flatR] at h
  | r :: l, u, h => by
    simp only [flatR, List.mem_cons] at h
    rcases h with rfl | rfl | h
    · rfl
    · rfl
    · exact flatR_one l u h
/-- What a slice of runs reads as. -/
def RU (W : World) (A : Option Addr) (l : List Rn) : Prop :=
  l.length ≤ 9223372036854775807 ∧ (0 < l.length → ∃ g o, A = some ⟨g, o, none⟩ ∧ g < W.heap.size ∧ ∀ j u, (flatR l)[j]? = some u → W.cell? ⟨g, o + j, none⟩ = some u)
theorem RU.at {W : World} {A : Option Addr} {l : List Rn} (h : RU W A l) (i : Nat) (hi : i < l.length) : ∃ g o, A = some ⟨g, o, none⟩ ∧ g < W.heap.size ∧ W.cell? ⟨g, o + i * 2, none⟩ = some (.int .i64 (l[i].1 : Nat)) ∧ W.cell? ⟨g, o + i * 2 + 1, none⟩ = some (.int .i64 (l[i].2 : Nat)) := by
  obtain ⟨g, o, e, hg, hc⟩ := h.2 (by omega)
  obtain ⟨h1, h2⟩ := flatR_get l i hi
  exact ⟨g, o, e, hg, hc _ _ h1, by have := hc _ _ h2; rwa [← Nat.add_assoc] at this⟩
theorem RU.move {W W' : World} {A : Option Addr} {l : List Rn} (h : RU W A l) (hs : W.heap.size ≤ W'.heap.size) (hm : ∀ a, A = some a → a.block < W.heap.size → W'.heap[a.block]? = W.heap[a.block]?) : RU W' A l := by
  refine ⟨h.1, fun hp => ?_⟩
  obtain ⟨g, o, e, hg, hc⟩ := h.2 hp
  refine ⟨g, o, e, by omega, fun j u hu => ?_⟩
  exact (cell_move (a := ⟨g, o + j, none⟩) (hm ⟨g, o, none⟩ e hg)).trans (hc j u hu)
theorem RU.below {W W' : World} {A : Option Addr} {l : List Rn} (h : RU W A l) (hb : Below W.heap.size W W') : RU W' A l := h.move hb.size (fun a _ hk => hb.block _ hk)
theorem RU.nil (W : World) (A : Option Addr) : RU W A [] := ⟨by simp, fun h => by simp at h⟩
theorem RU.max {W : World} {A : Option Addr} {l : List Rn} (h : RU W A l) : (l.length : Int) ≤ 9223372036854775807 := by have := h.1; omega
/-- A row of runs of the call's own. -/
def OR (W : World) (base : Nat) (v : Value) (l : List Rn) : Prop := W.ownsRow base 51 2 v l.length (flatR l)
theorem OR.nil (W : World) (base : Nat) : OR W base (.slice none 0 0) [] := own_nil _ _ _ _
theorem OR.move {W W' : World} {base : Nat} {v : Value} {l : List Rn} (h : OR W base v l) (hm : ∀ k, v.ownBlock = some k → W'.heap[k]? = W.heap[k]?) : OR W' base v l := own_move h hm
theorem OR.below {W W' : World} {base : Nat} {v : Value} {l : List Rn} (h : OR W base v l) (hb : Below W.heap.size W W') : OR W' base v l := pw_own_below h hb
theorem OR.lower {W : World} {base b : Nat} {v : Value} {l : List Rn} (h : OR W base v l) (hb : b ≤ base) : OR W b v l := own_weaken h hb
theorem OR.reads {W : World} {base : Nat} {v : Value} {l : List Rn} (h : OR W base v l) : ∃ A c, v = .slice A l.length c ∧ l.length ≤ c ∧ RU W A l := by
  rcases h.2 with ⟨e, h0⟩ | ⟨g, cap, cur, e, hb, hh, hc, hm, hs, ht⟩
  · obtain rfl : l = [] := List.eq_nil_of_length_eq_zero h0
    exact ⟨none, 0, e, by simp, RU.nil _ _⟩
  · refine ⟨_, _, e, hc, by unfold maxLen at hm; omega, fun hp => ⟨g, 0, rfl, (Array.getElem?_eq_some_iff.1 hh).1, fun j u hu => ?_⟩⟩
    subst e
    have h2 := h.cells (g := g) rfl j u hu
    have e2 : (⟨g, 0, none⟩ : Addr).add j = ⟨g, j, none⟩ := by
      unfold Addr.add
      split
      · rename_i h0; subst h0; rfl
      · simp
    rw [e2] at h2
    rw [Nat.zero_add]
    exact h2
theorem OR.typed {W : World} {base : Nat} {v : Value} {l : List Rn} (h : OR W base v l) : ∀ k, v.ownBlock = some k → base ≤ k ∧ k < W.heap.size ∧ ∃ cs, W.heap[k]? = some (.cells cs 51 (0, 0)) := fun k hk => ⟨own_base h k hk, own_lt h k hk, own_typed h k hk⟩
theorem info_run : (Tryz.prog.info? 51).map (fun i => (i.zero, i.size, i.bytes)) = some (some (.agg #[.int .i64 0, .int .i64 0]), 2, 16) := by kernel_rfl

/-- A function value that says which runs are meant. -/
def PredB (g : Nat) (lb : Array Value) (p : Rn → Bool) (w : World) : Prop :=
  ∀ W (r : Rn), Below w.heap.size w W → r.1 + r.2 ≤ 4096 → Calls Tryz.prog g (#[.agg #[.int .i64 (r.1 : Nat), .int .i64 (r.2 : Nat)]] ++ lb) W fun e w' => e = .returned (.bool (p r)) ∧ Below W.heap.size W w'
/-- The first run that is meant, or -1. -/
def idxR (p : Rn → Bool) (l : List Rn) : Int := match l.findIdx? p with
  | some i => (i : Nat)
  | none => -1
theorem idxR_hit (p : Rn → Bool) (l : List Rn) (i : Nat) (h : i < l.length) (hp : p l[i] = true) (hb : ∀ j (hj : j < l.length), j < i → p l[j] = false) : idxR p l = (i : Nat) := by
  unfold idxR
  rw [show l.findIdx? p = some i from List.findIdx?_eq_some_iff_getElem.2 ⟨h, hp, fun j hj => by simpa using hb j (by omega) hj⟩]
theorem idxR_miss (p : Rn → Bool) (l : List Rn) (hb : ∀ j (hj : j < l.length), p l[j] = false) : idxR p l = -1 := by
  unfold idxR
  rw [show l.findIdx? p = none from List.findIdx?_eq_none_iff.2 (fun x hx => by obtain ⟨j, hj, rfl⟩ := List.getElem_of_mem hx; exact hb j hj)]
set_option maxRecDepth 20000 in
set_option maxHeartbeats 4000000 in
theorem IndexFunc_c (A : Option Addr) (c g : Nat) (lb : Array Value) (p : Rn → Bool) (l : List Rn) (w : World) (hr : RU w A l) (hl : ∀ r ∈ l, r.1 + r.2 ≤ 4096) (hp : PredB g lb p w)
    (eg : ∀ args W, Sem.run Tryz.prog (callFunc g args) W = .ok (.enter g args) W) :
    Calls Tryz.prog 66 #[.slice A l.length c, .func (.func g) #[] lb] w fun e w' => e = .returned (.int .i64 (idxR p l)) ∧ Below w.heap.size w w' := by
  have hmx := hr.max
  obtain ⟨r, hrr⟩ : ∃ r, idxR p l = r := ⟨_, rfl⟩
  rw [hrr]
  have HRR := Lib.hid hrr
  have HR := Lib.hid hr
  have HL := Lib.hid hl
  have HP := Lib.hid hp
  clear hrr hr hl hp
  go_enter Tryz.func66, Tryz.ntmps66
  go_wp2_with fail
  go_loopw [8] (fun vi W => ∃ i : Nat, i ≤ l.length ∧ vi = .int .i64 i ∧ (∀ j (hj : j < l.length), j < i → p l[j] = false) ∧ Below w.heap.size w W) (fun vi _ => l.length - (intOf vi).toNat)
  case atStart => exact ⟨0, by omega, rfl, fun j _ h => by omega, Below.refl _ _⟩
  case round =>
    obtain ⟨i, hi, rfl, hall, hB⟩ := hrel
    have HALL := Lib.hid hall
    have HB := Lib.hid hB
    clear hall hB
    by_cases hlt : i < l.length
    · have hd : decide ((i : Int) < l.length) = true := decide_eq_true (by omega)
      obtain ⟨gb, o, e, hg, c1, c2⟩ := (HR.out.below HB.out).at i hlt
      subst e
      have i0 : (0 : Int) ≤ (i : Int) := by omega
      have i1 : (i : Int) < (l.length : Int) := by omega
      have hcall := HP.out wr l[i] HB.out (HL.out _ (List.getElem_mem hlt))
      have hhit := fun h => idxR_hit p l i hlt h (fun j hj hji => HALL.out j hj hji)
      have hnext : p l[i] = false → ∀ j (hj : j < l.length), j < i + 1 → p l[j] = false := fun h j hj hji => by
        by_cases e : j = i
        · subst e; exact h
        · exact HALL.out j hj (by omega)
      obtain ⟨⟨xa, xn⟩, hx⟩ : ∃ x, l[i] = x := ⟨_, rfl⟩
      rw [hx] at c1 c2 hcall hhit hnext
      obtain ⟨b, hb⟩ : ∃ b, p (xa, xn) = b := ⟨_, rfl⟩
      rw [hb] at hcall hhit hnext
      dsimp only at c1 c2 hcall
      have HHIT := Lib.hid hhit
      have HNEXT := Lib.hid hnext
      have HCALL := Lib.hid hcall
      have hsz := HB.out.size
      clear hx hb hhit hnext hcall
      go_wp2_with fail
      refine HCALL.out.mono ?_
      rintro e w2 ⟨rfl, hb2⟩
      have HB2 := Lib.hid (HB.out.trans (hb2.mono hsz))
      clear hb2
      cases b with
      | true =>
        have hr2 : r = (i : Nat) := by rw [← HRR.out]; exact HHIT.out (by first | rfl | trivial)
        have HR2 := Lib.hid hr2
        clear hr2
        go_wp2_with fail
        go_ret
        rw [HR2.out]
        exact ⟨rfl, HB2.out⟩
      | false =>
        have hn := HNEXT.out (by first | rfl | trivial)
        have HN := Lib.hid hn
        clear hn
        go_wp2_with fail
        exact ⟨⟨i + 1, by omega, by go_num, HN.out, HB2.out⟩, by simp [intOf]; omega⟩
    · have hd : decide ((i : Int) < l.length) = false := decide_eq_false (by omega)
      obtain rfl : i = l.length := by omega
      have hr2 : r = -1 := by rw [← HRR.out]; exact idxR_miss p l (fun j hj => HALL.out j hj hj)
      have HR2 := Lib.hid hr2
      clear hr2
      go_wp2_with fail
      go_ret
      rw [HR2.out]
      exact ⟨rfl, HB.out⟩
end Go.Proofs.YtbcamfbbooggfaaGreat.F
end

section
/- Rows of runs: copied, cloned, grown. -/
set_option linter.unusedVariables false
set_option linter.unusedSimpArgs false
namespace Go.Proofs.YtbcamfbbooggfaaGreat.F
open Go.RowKit Go.Proofs.YtbcamfbbooggfaaGreatW.PrintWords

theorem OR.of_block {W : World} {base g cap n : Nat} {l : List Rn} {cur : List Value} (hg : W.heap[g]? = some (.cells cur.toArray 51 (0, 0))) (hb : base ≤ g) (hn : n = l.length) (hc : n ≤ cap) (hm : cap ≤ 9223372036854775807) (hs : cur.length = cap * 2) (ht : cur.take (n * 2) = flatR l) : OR W base (.slice (some ⟨g, 0, none⟩) n cap) l := by
  subst hn
  exact ⟨flatR_len l, .inr ⟨g, cap, cur.toArray, rfl, hb, hg, hc, hm, by simpa using hs, by simpa using ht⟩⟩
end Go.Proofs.YtbcamfbbooggfaaGreat.F
end

section
/- Rows of runs, one behind the other. -/
set_option linter.unusedVariables false
set_option linter.unusedSimpArgs false
namespace Go.Proofs.YtbcamfbbooggfaaGreat.F
open Go.RowKit Go.Proofs.YtbcamfbbooggfaaGreatW.PrintWords

section
variable {ops : Array Oper} {rest : List Oper} {o : Oper} {a : Act} {Q : Exit → Act → World → Prop} {K : Act → World → Prop}
theorem run_append_RU {W : World} (base : Nat) (ty : TypeId) (v : Value) (l ys : List Rn) (A : Option Addr) (c : Nat)
    (HO : OR W base v l) (HR : RU W A ys) (hbase : base ≤ W.heap.size) (hl : l.length + ys.length ≤ 100000) :
    ∃ v1 w1, (Builtin.append_ #[86, 86] ty #[v, .slice A ys.length c]).run Tryz.prog W = .ok v1 w1 ∧ OR w1 base v1 (l ++ ys) ∧ W.grownBy w1 v.ownBlock ∧ (v1 = .slice none 0 0 ↔ v = .slice none 0 0 ∧ ys = []) := by
  obtain ⟨i0, hi, hz0, hz1, hz2⟩ := info_parts info_run
  have HO' : W.ownsRow base 51 2 v l.length (flatR l) := HO
  have ht := Tryz.underlying86
  cases A with
  | none =>
    have h0 : ys = [] := by
      cases ys with
      | nil => rfl
      | cons y ys => obtain ⟨g, o, h, _⟩ := HR.2 (by simp); cases h
    subst h0
    refine ⟨v, W, ?_, by simpa using HO, World.grownBy.refl W _, by simp⟩
    rcases HO'.2 with ⟨rfl, hn⟩ | ⟨g, cap, cur, rfl, _, _, hnc, _⟩
    · simp [Builtin.append_, run_underlying ht, sizeOf, typeInfo, hi, Builtin.lenOf, Builtin.firstCells]
    · simp [Builtin.append_, run_underlying ht, sizeOf, typeInfo, hi, Builtin.lenOf, Builtin.firstCells, hnc, storeCells]
  | some ad =>
    have hcells : ∀ j u, (flatR ys)[j]? = some u → W.cell? (ad.add j) = some u := by
      intro j u hu
      have hp : 0 < ys.length := by
        rcases Nat.eq_zero_or_pos ys.length with h | h
        · rw [List.eq_nil_of_length_eq_zero h] at hu; simp [flatR] at hu
        · exact h
      obtain ⟨g, o, e, hg, hc⟩ := HR.2 hp
      cases e
      rw [Addr.add_lit]
      exact hc j u hu
    obtain ⟨v1, w1, hr, h2, h3, h4⟩ := run_append_own (P := Tryz.prog) W base 86 ty 51 i0 _ 2 16 ht hi hz0 hz1 hz2 rfl (by omega) v l.length (flatR l) HO' ad ys.length c (flatR ys) (flatR_len ys) hcells
      (flatR_one ys) (by simp only [maxLen]; omega) (by omega) hbase
    exact ⟨v1, w1, hr, by unfold OR; rw [List.length_append, flatR_append]; exact h2, h3, h4.trans ⟨fun ⟨h1, h2⟩ => ⟨h1, List.eq_nil_of_length_eq_zero h2⟩, fun ⟨h1, h2⟩ => ⟨h1, by rw [h2]; rfl⟩⟩⟩
theorem append_RU {W : World} (base : Nat) (hgd : o.guard = none) (s x : Operand)
    (ho : o.op = .call { callee := .builtin .append, args := #[s, x], argTypes := #[86, 86] })
    (v : Value) (l ys : List Rn) (A : Option Addr) (c : Nat) (hs : a.eval s = v) (hx : a.eval x = .slice A ys.length c)
    (HO : OR W base v l) (HR : RU W A ys) (hbase : base ≤ W.heap.size) (hl : l.length + ys.length ≤ 100000)
    (h : ∀ v1 w1, OR w1 base v1 (l ++ ys) → W.grownBy w1 v.ownBlock → (v1 = .slice none 0 0 ↔ v = .slice none 0 0 ∧ ys = []) → wpList Tryz.prog ops Q rest (a.put o.dst v1) w1) :
    wpList Tryz.prog ops Q (o :: rest) a W := by
  obtain ⟨v1, w1, hr, h1, h2, h3⟩ := run_append_RU base o.type v l ys A c HO HR hbase hl
  exact Go.Lib.wpList_append_run W hgd s x _ _ ho _ _ hs hx v1 w1 hr (h v1 w1 h1 h2 h3)
end
set_option maxRecDepth 20000 in
set_option maxHeartbeats 4000000 in
theorem Grow_c (n : Nat) (w : World) (hn : n ≤ 100000) :
    Calls Tryz.prog 147 #[.slice none 0 0, .int .i64 n] w fun e w' => ∃ v, e = .returned v ∧ OR w' w.heap.size v [] ∧ (n = 0 → v = .slice none 0 0) ∧ Below w.heap.size w w' := by
  obtain ⟨i0, hi0, hz0, hz1, hz2⟩ := info_parts info_run
  by_cases h0 : n = 0
  · subst h0
    go_enter Tryz.func147, Tryz.ntmps147
    go_wp2_with fail
    go_ret
    exact ⟨_, rfl, OR.nil _ _, fun _ => rfl, Below.refl _ _⟩
  · have d0 : decide ((n : Int) < 0) = false := decide_eq_false (by omega)
    have d1 : decide ((0 : Int) < n) = true := decide_eq_true (by omega)
    have d2 : decide (0 < n) = true := decide_eq_true (by omega)
    have hrun := fun ty => Go.Lib.run_append_nil_zeros w 86 3 ty 51 i0 _ .i64 .i64 Tryz.underlying86 Tryz.underlying3 hi0 hz0 n (by omega) (by rw [hz1]; omega) (by omega) (by rw [hz2]; omega)
    have hge := grownCap_ge w n 0 51
    have hle := grownCap_le_maxLen w n 0 51 (by unfold maxLen; omega)
    obtain ⟨G, hG⟩ : ∃ G, grownCap w n 0 51 = G := ⟨_, rfl⟩
    rw [hG] at hge hle
    simp only [hG] at hrun
    obtain ⟨cur, hcur⟩ : ∃ cur, Builtin.zeroCells (Value.agg #[.int .i64 0, .int .i64 0]).cells n ++ Builtin.zeroCells (Value.agg #[.int .i64 0, .int .i64 0]).cells (G - n) = cur := ⟨_, rfl⟩
    have hcs : cur.size = G * 2 := by
      rw [← hcur, Array.size_append, size_zeroCells, size_zeroCells]
      have : (Value.agg #[.int .i64 0, .int .i64 0]).cells.size = 2 := rfl
      rw [this]
      omega
    rw [hcur] at hrun
    obtain ⟨W2, hW2⟩ : ∃ W2, w.drew.alloc (.cells cur 51) = W2 := ⟨_, rfl⟩
    have hb2 : Below w.heap.size w W2 := by rw [← hW2]; exact (Below.refl _ _).drew.alloc (Nat.le_refl _) _
    have ho2 : OR W2 w.heap.size (.slice (some ⟨w.heap.size, 0, none⟩) 0 G) [] := by
      refine ⟨rfl, .inr ⟨w.heap.size, G, cur, rfl, Nat.le_refl _, ?_, by simp, hle, hcs, by simp [flatR]⟩⟩
      rw [← hW2]
      exact heap_alloc_new w.drew _
    rw [hW2] at hrun
    have HB2 := Lib.hid hb2
    have HO2 := Lib.hid ho2
    have HN := Lib.hid h0
    have g0 : (0 : Int) ≤ (G : Int) := by omega
    clear hb2 ho2 hG hcur hcs hW2 hge hle h0
    go_enter Tryz.func147, Tryz.ntmps147
    go_wp2_with (at_builtin; refine Go.Lib.wpList_append_run _ rfl _ _ _ _ rfl _ _ rfl rfl _ _ (hrun _) ?_)
    go_ret
    exact ⟨_, rfl, HO2.out, fun h => absurd h HN.out, HB2.out⟩
/-- Slices of runs that are handed in one slice. -/
abbrev eSr := Option Addr × Nat × List Rn
def esrv (x : eSr) : Value := .slice x.1 x.2.2.length x.2.1
def esrs (l : List eSr) : List Rn := (l.map (·.2.2)).flatten
theorem esrs_append (a b : List eSr) : esrs (a ++ b) = esrs a ++ esrs b := by simp [esrs]
theorem esrs_take (l : List eSr) (i : Nat) (h : i < l.length) : esrs (l.take (i + 1)) = esrs (l.take i) ++ l[i].2.2 := by
  rw [List.take_succ_eq_append_getElem h, esrs_append]
  congr 1
  simp [esrs]
theorem esrs_le (l : List eSr) (i : Nat) : (esrs (l.take i)).length ≤ (esrs l).length := by
  have h := esrs_append (l.take i) (l.drop i)
  rw [List.take_append_drop] at h
  rw [h, List.length_append]
  omega
set_option maxRecDepth 20000 in
set_option maxHeartbeats 4000000 in
theorem Concat_c (B c : Nat) (sl : List eSr) (w : World) (hB : B < w.heap.size) (hc : ∀ i (h : i < sl.length), w.cell? ⟨B, i, none⟩ = some (esrv sl[i])) (hr : ∀ x ∈ sl, RU w x.1 x.2.2) (hl : (esrs sl).length ≤ 100000) (hn : sl.length ≤ 100) :
    Calls Tryz.prog 111 #[.slice (some ⟨B, 0, none⟩) sl.length c] w fun e w' => ∃ v, e = .returned v ∧ OR w' w.heap.size v (esrs sl) ∧ (esrs sl = [] → v = .slice none 0 0) ∧ Below w.heap.size w w' := by
  have HC := Lib.hid hc
  have HR := Lib.hid hr
  have n0 : (sl.length : Int) ≤ 100 := by omega
  clear hc hr
  go_enter Tryz.func111, Tryz.ntmps111
  go_wp2_with fail
  go_loop [3, 11] (fun vs vi => ∃ i : Nat, i ≤ sl.length ∧ vi = .int .i64 i ∧ vs = .int .i64 ((esrs (sl.take i)).length : Nat)) (fun _ vi => sl.length - (intOf vi).toNat)
  case atStart => exact ⟨0, by omega, rfl, rfl⟩
  case round =>
    obtain ⟨i, hi, rfl, rfl⟩ := hrel
    by_cases hlt : i < sl.length
    · have hd : decide ((i : Int) < sl.length) = true := decide_eq_true (by omega)
      have i0 : (0 : Int) ≤ (i : Int) := by omega
      have i1 : (i : Int) < (sl.length : Int) := by omega
      have hci := HC.out i hlt
      have hst := esrs_take sl i hlt
      have hle := esrs_le sl (i + 1)
      have hle0 := esrs_le sl i
      obtain ⟨⟨xa, xc, xl⟩, hx⟩ : ∃ x, sl[i] = x := ⟨_, rfl⟩
      rw [hx] at hci hst
      have hst2 : (esrs (sl.take (i + 1))).length = (esrs (sl.take i)).length + xl.length := by rw [hst, List.length_append]
      unfold esrv at hci
      dsimp only at hci
      obtain ⟨S, hS⟩ : ∃ S, (esrs (sl.take i)).length = S := ⟨_, rfl⟩
      rw [hS] at hst2 hle0 ⊢
      have h1 : (S : Int) + xl.length ≤ 100000 := by omega
      have h2 : (0 : Int) ≤ (S : Int) + xl.length := by omega
      have h3 : decide ((S : Int) + xl.length < 0) = false := decide_eq_false (by omega)
      have HST := Lib.hid hst2
      clear hst hx hS hst2 hle hle0 hl
      go_wp2_with fail
      go_round
      case rel => exact ⟨i + 1, by omega, by go_num, by rw [HST.out]; go_num⟩
      case measure => simp [intOf]; omega
    · have hd : decide ((i : Int) < sl.length) = false := decide_eq_false (by omega)
      obtain rfl : i = sl.length := by omega
      rw [List.take_length]
      obtain ⟨S, hS⟩ : ∃ S, (esrs sl).length = S := ⟨_, rfl⟩
      rw [hS] at hl ⊢
      have HS := Lib.hid hS
      clear hS
      go_wp2_with fail
      refine (Grow_c S w hl).mono ?_
      rintro e w1 ⟨v1, rfl, ho1, hv1, hb1⟩
      have HO1 := Lib.hid ho1
      have HV1 := Lib.hid hv1
      have HB1 := Lib.hid hb1
      clear ho1 hv1 hb1
      go_wp2_with fail
      go_loopw [6, 27] (fun vo vi W => ∃ i : Nat, i ≤ sl.length ∧ vi = .int .i64 i ∧ OR W w.heap.size vo (esrs (sl.take i)) ∧ (esrs sl = [] → vo = .slice none 0 0) ∧ Below w.heap.size w W) (fun _ vi _ => sl.length - (intOf vi).toNat)
      case atStart => exact ⟨0, by omega, rfl, HO1.out, fun h => HV1.out (by rw [← HS.out, h]; rfl), HB1.out⟩
      case round =>
        obtain ⟨i, hi, rfl, ho, hv, hb⟩ := hrel
        have HO := Lib.hid ho
        have HV := Lib.hid hv
        have HB := Lib.hid hb
        have hsz := hb.size
        clear ho hv hb
        by_cases hlt : i < sl.length
        · have hd : decide ((i : Int) < sl.length) = true := decide_eq_true (by omega)
          have i0 : (0 : Int) ≤ (i : Int) := by omega
          have i1 : (i : Int) < (sl.length : Int) := by omega
          have hci : wr.cell? ⟨B, i, none⟩ = some (esrv sl[i]) := (HB.out.cell (p := ⟨B, i, none⟩) hB).trans (HC.out i hlt)
          have hri := (HR.out _ (List.getElem_mem hlt)).below HB.out
          have hst := esrs_take sl i hlt
          have hle := esrs_le sl (i + 1)
          have hem : esrs sl = [] → sl[i].2.2 = [] := fun h => by
            have h1 := esrs_le sl (i + 1)
            rw [h, esrs_take sl i hlt] at h1
            simp at h1
            exact h1.2
          obtain ⟨⟨xa, xc, xl⟩, hx⟩ : ∃ x, sl[i] = x := ⟨_, rfl⟩
          rw [hx] at hci hst hri hem
          rw [hst, List.length_append, HS.out] at hle
          unfold esrv at hci
          dsimp only at hci hri hem hle
          have HRI := Lib.hid hri
          have HST := Lib.hid hst
          have HEM := Lib.hid hem
          clear hx hri hst hem
          obtain ⟨wo, rfl⟩ : ∃ wo : World, wo = wr := ⟨_, rfl⟩
          go_wp2_with (at_builtin; refine append_RU w.heap.size rfl _ _ rfl _ _ xl xa xc rfl rfl HO.out HRI.out hsz (by omega) ?_; intro v5 w5 ho5 hg5 hv5)
          have hb5 : Below w.heap.size w w5 := HB.out.grown hg5 hsz (fun k hk => own_base HO.out k hk)
          have HO5 := Lib.hid ho5
          have HV5 := Lib.hid hv5
          have HB5 := Lib.hid hb5
          clear ho5 hg5 hv5 hb5
          go_wp2_with fail
          exact ⟨⟨i + 1, by omega, by go_num, by rw [HST.out]; exact HO5.out, fun h => HV5.out.2 ⟨HV.out h, HEM.out h⟩, HB5.out⟩, by simp [intOf]; omega⟩
        · have hd : decide ((i : Int) < sl.length) = false := decide_eq_false (by omega)
          obtain rfl : i = sl.length := by omega
          have ho := HO.out
          rw [List.take_length] at ho
          have HO2 := Lib.hid ho
          clear ho HO
          go_wp2_with fail
          go_ret
          exact ⟨_, rfl, HO2.out, HV.out, HB.out⟩
end Go.Proofs.YtbcamfbbooggfaaGreat.F
end

section
/- A run is inserted into a row. -/
set_option linter.unusedVariables false
set_option linter.unusedSimpArgs false
namespace Go.Proofs.YtbcamfbbooggfaaGreat.F
open Go.RowKit Go.Proofs.YtbcamfbbooggfaaGreatW.PrintWords

theorem RU.one {W : World} {vb : Nat} {r : Rn} (h : W.heap[vb]? = some (.cells #[.int .i64 (r.1 : Nat), .int .i64 (r.2 : Nat)] 51 (0, 0))) : RU W (some ⟨vb, 0, none⟩) [r] := by
  refine ⟨by simp, fun _ => ⟨vb, 0, rfl, (Array.getElem?_eq_some_iff.1 h).1, fun j u hu => ?_⟩⟩
  rw [Nat.zero_add, cell_of_row _ _ _ _ _ _ h]
  simpa [flatR] using hu
end Go.Proofs.YtbcamfbbooggfaaGreat.F
end

section
/- Two runs of a map are made one. -/
set_option linter.unusedVariables false
set_option linter.unusedSimpArgs false
namespace Go.Proofs.YtbcamfbbooggfaaGreat.F
open Go.RowKit Go.Proofs.YtbcamfbbooggfaaGreatW.PrintWords

theorem Gr.drew {S : Nat → Prop} {a b : World} (h : Gr S a b) : Gr S a b.drew := ⟨h.os, h.tape, h.output, h.size, h.block⟩
/-- A map's block. -/
def EMb (W : World) (b f t : Nat) (v : Value) : Prop := W.heap[b]? = some (.cells #[.int .i64 (f : Nat), .int .i64 (t : Nat), v] 88 (0, 0))
theorem EMb.c0 {W : World} {b f t : Nat} {v : Value} (h : EMb W b f t v) : W.cell? ⟨b, 0, none⟩ = some (.int .i64 (f : Nat)) := by rw [cell_of_row _ _ _ _ _ _ h]; rfl
theorem EMb.c1 {W : World} {b f t : Nat} {v : Value} (h : EMb W b f t v) : W.cell? ⟨b, 1, none⟩ = some (.int .i64 (t : Nat)) := by rw [cell_of_row _ _ _ _ _ _ h]; rfl
theorem EMb.c2 {W : World} {b f t : Nat} {v : Value} (h : EMb W b f t v) : W.cell? ⟨b, 2, none⟩ = some v := by rw [cell_of_row _ _ _ _ _ _ h]; rfl
theorem EMb.fr {W : World} {b f t : Nat} {v : Value} (h : EMb W b f t v) (k : Nat) : W.frozen? ⟨b, k, none⟩ = false := frozen_of_row _ _ _ _ _ h
theorem EMb.set {W : World} {b f t : Nat} {v : Value} (h : EMb W b f t v) (u : Value) : EMb (W.setCell ⟨b, 2, none⟩ u) b f t u := by
  unfold EMb
  rw [heap_setCell_same W b 2 _ _ _ h]
  rfl
theorem EMb.move {W W' : World} {b f t : Nat} {v : Value} (h : EMb W b f t v) (hm : W'.heap[b]? = W.heap[b]?) : EMb W' b f t v := hm.trans h
theorem EMb.lt {W : World} {b f t : Nat} {v : Value} (h : EMb W b f t v) : b < W.heap.size := (Array.getElem?_eq_some_iff.1 h).1
theorem flatR_set : ∀ (l : List Rn) (i : Nat) (n : Nat) (h : i < l.length), (flatR l).set (i * 2 + 1) (.int .i64 (n : Nat)) = flatR (l.set i (l[i].1, n))
  | [], i, n, h => by simp at h
  | r :: l, 0, n, h => rfl
  | r :: l, i + 1, n, h => by
    have ih := flatR_set l i n (by simpa using h)
    rw [show (i + 1) * 2 + 1 = (i * 2 + 1) + 1 + 1 by omega]
    simp [flatR, ih]
theorem OR.put {W : World} {base g cap : Nat} {l : List Rn} (h : OR W base (.slice (some ⟨g, 0, none⟩) l.length cap) l) (i n : Nat) (hi : i < l.length) :
    OR (W.setCell ⟨g, i * 2 + 1, none⟩ (.int .i64 (n : Nat))) base (.slice (some ⟨g, 0, none⟩) l.length cap) (l.set i (l[i].1, n)) := by
  rcases h.2 with ⟨e, _⟩ | ⟨g', cap', cur, e, hbg, hg, hnc, hcm, hcs, htk⟩
  · cases e
  · have hh := e
    cases e
    obtain ⟨cl, hcl⟩ : ∃ cl : List Value, cur = cl.toArray := ⟨cur.toList, by simp⟩
    subst hcl
    have htk : cl.take (l.length * 2) = flatR l := htk
    rw [List.size_toArray] at hcs
    have hg2 := heap_setCell_same W g (i * 2 + 1) cl.toArray 51 (.int .i64 (n : Nat)) hg
    rw [List.setIfInBounds_toArray] at hg2
    refine OR.of_block hg2 hbg (by simp) hnc (by unfold maxLen at hcm; omega) (by simpa using hcs) ?_
    rw [← flatR_set l i n hi, ← htk, List.take_set]
end Go.Proofs.YtbcamfbbooggfaaGreat.F
end
