/- Part 7 of the proof: TDx, TDk, TDu, TDp. -/
import Derived.Test.YtbcamfbbooggfaaGreatQ06
import Derived.IntWalk
import Derived.WalkKit

section
/- Numbers as bytes, walked. -/
set_option linter.unusedVariables false
set_option linter.unusedSimpArgs false
namespace Go.Proofs.YtbcamfbbooggfaaGreat.F
open Go.RowKit Go.Proofs.YtbcamfbbooggfaaGreatW.PrintWords

theorem number_c (n : Nat) (w : World) (hn : n ≤ 9007199254740991) :
    Calls Tryz.prog 120 #[.int .i64 n] w fun e w' => e = .returned (.bool true) ∧ w' = w := by
  have h0 : decide ((0 : Int) ≤ n) = true := decide_eq_true (by omega)
  have h1 : decide ((n : Int) ≤ 9007199254740991) = true := decide_eq_true (by omega)
  go_enter Tryz.func120, Tryz.ntmps120
  go_wp2_with fail
  go_ret
  exact ⟨rfl, rfl⟩
/-- The lowest bytes of a number in k bytes, from place i on. -/
def bigF (k n i : Nat) : List Nat := (List.range k).map fun t => if i ≤ t then n / 256 ^ (k - 1 - t) % 256 else 0
/-- A number in k bytes, the highest one first. -/
def bigN (k n : Nat) : List Nat := (List.range k).map fun t => n / 256 ^ (k - 1 - t) % 256
theorem bigF_zero (k n : Nat) : bigF k n 0 = bigN k n := by unfold bigF bigN; simp
theorem bigF_start (k n : Nat) : bigF k n k = List.replicate k 0 := by
  unfold bigF
  apply List.ext_getElem
  · simp
  · intro i h1 h2
    simp at h1
    simp
    omega
theorem bigF_len (k n i : Nat) : (bigF k n i).length = k := by simp [bigF]
theorem bigN_len (k n : Nat) : (bigN k n).length = k := by simp [bigN]
theorem bigF_set (k n u : Nat) (h : u < k) : (bigF k n (u + 1)).set u (n / 256 ^ (k - 1 - u) % 256) = bigF k n u := by
  unfold bigF
  apply List.ext_getElem
  · simp
  · intro i h1 h2
    simp at h1
    rw [List.getElem_set]
    by_cases e : u = i
    · subst e; simp
    · rw [if_neg e]
      simp only [List.getElem_map, List.getElem_range]
      by_cases h3 : u ≤ i
      · rw [if_pos (by omega), if_pos h3]
      · rw [if_neg (by omega), if_neg h3]
theorem bigN_lt (k n : Nat) : ∀ x ∈ bigN k n, x < 256 := by
  intro x hx
  obtain ⟨i, _, rfl⟩ := List.mem_map.1 hx
  exact Nat.mod_lt _ (by omega)
theorem made_N {W : World} {base : Nat} {e : TypeId} {k : IntKind} {m : Nat} (hb : base ≤ W.heap.size) (hm : m ≤ 9223372036854775807) :
    OwnN k e (W.alloc (.cells (madeCells #[.int k 0] m) e)) base (.slice (some ⟨W.heap.size, 0, none⟩) m m) (List.replicate m 0) := by
  have h := own_made W base e k m hb hm
  unfold OwnN
  rw [List.length_replicate]
  have e1 : nums k (List.replicate m 0) = (List.replicate m 0).map (encN k) := by simp [nums, encN]
  rw [← e1]
  exact h
theorem OwnN.cellAt {k : IntKind} {e : TypeId} {W : World} {base g cap : Nat} {xs : List Nat} (h : OwnN k e W base (.slice (some ⟨g, 0, none⟩) xs.length cap) xs) (j : Nat) (hj : j < xs.length) : W.cell? ⟨g, j, none⟩ = some (.int k (xs[j] : Nat)) := by
  have h' : W.ownsRow base e 1 (.slice (some ⟨g, 0, none⟩) xs.length cap) xs.length (xs.map (encN k)) := h
  rw [h'.cellAt j (by omega)]
  simp [hj, encN]
theorem OwnN.frozenAt {k : IntKind} {e : TypeId} {W : World} {base g cap : Nat} {xs : List Nat} (h : OwnN k e W base (.slice (some ⟨g, 0, none⟩) xs.length cap) xs) (j : Nat) : W.frozen? ⟨g, j, none⟩ = false :=
  World.ownsRow.frozenAt (show W.ownsRow base e 1 (.slice (some ⟨g, 0, none⟩) xs.length cap) xs.length (xs.map (encN k)) from h) j
theorem OwnN.stored {k : IntKind} {e : TypeId} {W : World} {base g cap : Nat} {xs : List Nat} (h : OwnN k e W base (.slice (some ⟨g, 0, none⟩) xs.length cap) xs) (j x : Nat) : OwnN k e (W.setCell ⟨g, j, none⟩ (.int k (x : Nat))) base (.slice (some ⟨g, 0, none⟩) xs.length cap) (xs.set j x) := by
  have h' : W.ownsRow base e 1 (.slice (some ⟨g, 0, none⟩) xs.length cap) xs.length (xs.map (encN k)) := h
  have := (h'.stored j (.int k (x : Nat))).1
  unfold OwnN
  rw [List.length_set, List.map_set]
  exact this
theorem pow_step (n j : Nat) : n / 256 ^ j / 256 = n / 256 ^ (j + 1) := by rw [Nat.div_div_eq_div_mul, Nat.pow_succ]
set_option maxHeartbeats 1000000 in
theorem Fixed_c (n k : Nat) (w : World) (hk1 : 1 ≤ k) (hk8 : k ≤ 8) (hn : n ≤ 9007199254740991) (hfit : k < 7 → n < 256 ^ k) :
    Calls Tryz.prog 79 #[.int .i64 n, .int .i64 k] w fun e w' => ∃ v, e = .returned (.tuple #[v, .int .i64 0]) ∧ OwnN .u8 5 w' w.heap.size v (bigN k n) ∧ Below w.heap.size w w' := by
  have d1 : decide ((k : Int) < 1) = false := decide_eq_false (by omega)
  have d2 : decide ((8 : Int) < k) = false := decide_eq_false (by omega)
  have hmk := print_make 25 5 .u8 1 Tryz.underlying25 info_u8 (by decide) k (by omega)
  have hO := made_N (W := w) (base := w.heap.size) (e := 5) (k := .u8) (m := k) (Nat.le_refl _) (by omega)
  have hB : Below w.heap.size w (w.alloc (.cells (madeCells #[.int .u8 0] k) 5)) := (Below.refl _ _).alloc (Nat.le_refl _) _
  obtain ⟨W0, hW0⟩ : ∃ W0, w.alloc (.cells (madeCells #[.int .u8 0] k) 5) = W0 := ⟨_, rfl⟩
  rw [hW0] at hO hB
  rw [← bigF_start k n] at hO
  have HO := Lib.hid hO
  have HW0 := Lib.hid hW0
  have hnum := fun w => number_c n w hn
  have HNUM := Lib.hid hnum
  have HF := Lib.hid hfit
  clear hO hW0 hnum hfit
  by_cases h7 : k < 7
  · have d3 : decide ((k : Int) < 7) = true := decide_eq_true (by omega)
    have d4 : decide ((0 : Int) < (n : Int) / 2 ^ (8 * k)) = false := by
      have h := HF.out h7
      rw [show (256 : Nat) = 2 ^ 8 from rfl, ← Nat.pow_mul] at h
      have h2 : n / 2 ^ (8 * k) = 0 := Nat.div_eq_of_lt h
      have h3 : (n : Int) / 2 ^ (8 * k) = ((n / 2 ^ (8 * k) : Nat) : Int) := by rw [Int.natCast_ediv, Int.natCast_pow]; rfl
      rw [h3, h2]; rfl
    go_enter Tryz.func79, Tryz.ntmps79
    go_wp2_with ((with_reducible refine (HNUM.out _).mono ?_); rintro e w1 ⟨rfl, rfl⟩)
    rw [HW0.out]
    clear hmk d1 d2
    go_loopw [0, 7] (fun vn vi W => ∃ i : Nat, i ≤ k ∧ vi = .int .i64 ((i : Int) - 1) ∧ vn = .int .i64 (n / 256 ^ (k - i) : Nat) ∧ OwnN .u8 5 W w1.heap.size (.slice (some ⟨w1.heap.size, 0, none⟩) k k) (bigF k n i) ∧ Below w1.heap.size w1 W) (fun _ vi _ => (intOf vi + 1).toNat)
    case atStart => exact ⟨k, Nat.le_refl _, rfl, by simp, HO.out, hB⟩
    case round =>
      obtain ⟨i, hi, rfl, rfl, ho, hW⟩ := hrel
      have HOI := Lib.hid ho
      clear ho
      rcases i with _ | u
      · have hd : decide ((0 : Int) ≤ ((0 : Nat) : Int) - 1) = false := by decide
        have ho := HOI.out
        rw [bigF_zero] at ho
        have HOE := Lib.hid ho
        clear ho
        go_wp2_with fail
        go_ret2
        exact ⟨_, rfl, HOE.out, hW⟩
      · have e1 : ((u + 1 : Nat) : Int) - 1 = (u : Int) := by omega
        rw [e1]
        have hd : decide ((0 : Int) ≤ (u : Int)) = true := decide_eq_true (by omega)
        have i0 : (0 : Int) ≤ (u : Int) := by omega
        have i1 : (u : Int) < k := by omega
        have hq := pow_step n (k - (u + 1))
        rw [show k - (u + 1) + 1 = k - u by omega] at hq
        have ho := HOI.out
        have hset := bigF_set k n u (by omega)
        rw [show k - 1 - u = k - (u + 1) by omega] at hset
        have hbl := bigF_len k n (u + 1)
        have hql : n / 256 ^ (k - (u + 1)) ≤ 9007199254740991 := Nat.le_trans (Nat.div_le_self _ _) hn
        obtain ⟨q, hqq⟩ : ∃ q, n / 256 ^ (k - (u + 1)) = q := ⟨_, rfl⟩
        rw [hqq] at hq hset hql ⊢
        obtain ⟨xs, hxs⟩ : ∃ xs, bigF k n (u + 1) = xs := ⟨_, rfl⟩
        rw [hxs] at ho hset hbl
        have ho' : OwnN .u8 5 wr w1.heap.size (.slice (some ⟨w1.heap.size, 0, none⟩) xs.length k) xs := by rw [hbl]; exact ho
        obtain ⟨y, cu⟩ : ∃ y : Nat, wr.cell? ⟨w1.heap.size, u, none⟩ = some (.int .u8 (y : Nat)) := ⟨_, ho'.cellAt u (by omega)⟩
        have fu := ho'.frozenAt u
        have hst := ho'.stored u (q % 256)
        rw [hset, hbl] at hst
        have HST := Lib.hid hst
        have HQ := Lib.hid hq
        have hqm : ((q : Int) % 256) = ((q % 256 : Nat) : Int) := by omega
        have HQM := Lib.hid hqm
        clear hqq hxs hq hset hbl hqm ho ho' hst e1 HOI
        go_wp2_with fail
        rw [HQM.out]
        refine ⟨⟨u, by omega, rfl, ?_, HST.out, hW.setCell (Nat.le_refl _) _⟩, by simp [intOf]⟩
        rw [← HQ.out]; rfl
  · have d3 : decide ((k : Int) < 7) = false := decide_eq_false (by omega)
    go_enter Tryz.func79, Tryz.ntmps79
    go_wp2_with ((with_reducible refine (HNUM.out _).mono ?_); rintro e w1 ⟨rfl, rfl⟩)
    rw [HW0.out]
    clear hmk d1 d2
    go_loopw [0, 7] (fun vn vi W => ∃ i : Nat, i ≤ k ∧ vi = .int .i64 ((i : Int) - 1) ∧ vn = .int .i64 (n / 256 ^ (k - i) : Nat) ∧ OwnN .u8 5 W w1.heap.size (.slice (some ⟨w1.heap.size, 0, none⟩) k k) (bigF k n i) ∧ Below w1.heap.size w1 W) (fun _ vi _ => (intOf vi + 1).toNat)
    case atStart => exact ⟨k, Nat.le_refl _, rfl, by simp, HO.out, hB⟩
    case round =>
      obtain ⟨i, hi, rfl, rfl, ho, hW⟩ := hrel
      have HOI := Lib.hid ho
      clear ho
      rcases i with _ | u
      · have hd : decide ((0 : Int) ≤ ((0 : Nat) : Int) - 1) = false := by decide
        have ho := HOI.out
        rw [bigF_zero] at ho
        have HOE := Lib.hid ho
        clear ho
        go_wp2_with fail
        go_ret2
        exact ⟨_, rfl, HOE.out, hW⟩
      · have e1 : ((u + 1 : Nat) : Int) - 1 = (u : Int) := by omega
        rw [e1]
        have hd : decide ((0 : Int) ≤ (u : Int)) = true := decide_eq_true (by omega)
        have i0 : (0 : Int) ≤ (u : Int) := by omega
        have i1 : (u : Int) < k := by omega
        have hq := pow_step n (k - (u + 1))
        rw [show k - (u + 1) + 1 = k - u by omega] at hq
        have ho := HOI.out
        have hset := bigF_set k n u (by omega)
        rw [show k - 1 - u = k - (u + 1) by omega] at hset
        have hbl := bigF_len k n (u + 1)
        have hql : n / 256 ^ (k - (u + 1)) ≤ 9007199254740991 := Nat.le_trans (Nat.div_le_self _ _) hn
        obtain ⟨q, hqq⟩ : ∃ q, n / 256 ^ (k - (u + 1)) = q := ⟨_, rfl⟩
        rw [hqq] at hq hset hql ⊢
        obtain ⟨xs, hxs⟩ : ∃ xs, bigF k n (u + 1) = xs := ⟨_, rfl⟩
        rw [hxs] at ho hset hbl
        have ho' : OwnN .u8 5 wr w1.heap.size (.slice (some ⟨w1.heap.size, 0, none⟩) xs.length k) xs := by rw [hbl]; exact ho
        obtain ⟨y, cu⟩ : ∃ y : Nat, wr.cell? ⟨w1.heap.size, u, none⟩ = some (.int .u8 (y : Nat)) := ⟨_, ho'.cellAt u (by omega)⟩
        have fu := ho'.frozenAt u
        have hst := ho'.stored u (q % 256)
        rw [hset, hbl] at hst
        have HST := Lib.hid hst
        have HQ := Lib.hid hq
        have hqm : ((q : Int) % 256) = ((q % 256 : Nat) : Int) := by omega
        have HQM := Lib.hid hqm
        clear hqq hxs hq hset hbl hqm ho ho' hst e1 HOI
        go_wp2_with fail
        rw [HQM.out]
        refine ⟨⟨u, by omega, rfl, ?_, HST.out, hW.setCell (Nat.le_refl _) _⟩, by simp [intOf]⟩
        rw [← HQ.out]; rfl
end Go.Proofs.YtbcamfbbooggfaaGreat.F
end

section
/- Arrays told by their places; a sum's bytes. -/
set_option linter.unusedVariables false
set_option linter.unusedSimpArgs false
set_option maxRecDepth 20000
namespace Go.Proofs.YtbcamfbbooggfaaGreat.F
open Go.RowKit Go.Proofs.YtbcamfbbooggfaaGreatW.PrintWords

/-- An array of m numbers, each told by its place. -/
def tabK (k : IntKind) (m : Nat) (f : Nat → Nat) : Array Value := ((List.range m).map fun i => encN k (f i)).toArray
theorem tabK_size (k : IntKind) (m : Nat) (f : Nat → Nat) : (tabK k m f).size = m := by simp [tabK]
theorem tabK_get (k : IntKind) (m : Nat) (f : Nat → Nat) (i : Nat) (h : i < m) : (tabK k m f)[i]? = some (.int k (f i : Nat)) := by simp [tabK, h, encN]
theorem tabK_set (k : IntKind) (m : Nat) (f : Nat → Nat) (i x : Nat) (h : i < m) : (tabK k m f).setIfInBounds i (.int k (x : Nat)) = tabK k m (upd f i x) := by
  apply Array.ext_getElem?
  intro j
  by_cases hj : j < m
  · rw [tabK_get _ _ _ j hj]
    by_cases e : i = j
    · subst e
      rw [Array.getElem?_setIfInBounds_self_of_lt (by rw [tabK_size]; exact hj)]
      simp [upd]
    · rw [Array.getElem?_setIfInBounds_ne e, tabK_get _ _ _ j hj]
      simp [upd, Ne.symm e]
  · rw [Array.getElem?_eq_none (by simp [tabK_size]; omega), Array.getElem?_eq_none (by rw [tabK_size]; omega)]
theorem tabK_one (k : IntKind) (m : Nat) (f : Nat → Nat) : (tabK k m f).all (·.oneCell') = true := by simp [tabK, encN, Value.oneCell']
theorem tabK_congr {k : IntKind} {m : Nat} {f g : Nat → Nat} (h : ∀ i, i < m → f i = g i) : tabK k m f = tabK k m g := by
  unfold tabK
  congr 1
  exact List.map_congr_left fun i hi => by rw [h i (List.mem_range.1 hi)]
theorem tabK_store {W : World} {g t : Nat} {k : IntKind} {m : Nat} {f : Nat → Nat} {i x : Nat} (h : W.heap[g]? = some (.cells (tabK k m f) t (0, 0))) (hi : i < m) :
    (W.setCell ⟨g, i, none⟩ (.int k (x : Nat))).heap[g]? = some (.cells (tabK k m (upd f i x)) t (0, 0)) := by
  rw [heap_setCell_same _ _ _ _ _ _ h, tabK_set k m f i x hi]
theorem tabK_cell {W : World} {g t : Nat} {k : IntKind} {m : Nat} {f : Nat → Nat} (h : W.heap[g]? = some (.cells (tabK k m f) t (0, 0))) (i : Nat) (hi : i < m) : W.cell? ⟨g, i, none⟩ = some (.int k (f i : Nat)) := by
  rw [cell_of_row _ _ _ _ _ _ h]; exact tabK_get k m f i hi
theorem tabK_free {W : World} {g t : Nat} {k : IntKind} {m : Nat} {f : Nat → Nat} (h : W.heap[g]? = some (.cells (tabK k m f) t (0, 0))) (i : Nat) : W.frozen? ⟨g, i, none⟩ = false := frozen_of_row _ _ _ _ _ h

/-- The i-th byte of a state. -/
def byteS (s : St) (i : Nat) : Nat := s.at (i / 4) / 2 ^ (24 - 8 * (i % 4)) % 256
/-- A text's sum, by its bytes. -/
def shaB (p : List Nat) (i : Nat) : Nat := byteS (mixes beginS (p ++ padN p.length) ((p.length + (padN p.length).length) / 64)) i
def shaA (p : List Nat) : Array Value := tabK .u8 32 (shaB p)
def zeros32 : Array Value := tabK .u8 32 fun _ => 0
theorem zero32 : ∀ W : World, Sem.run Tryz.prog (zeroValue 61) W = .ok (.agg zeros32) W := fun _ => by kernel_rfl
theorem info32 : (Tryz.prog.info? 61).map (·.size) = some 32 := by kernel_rfl
def fillB (s : St) (i : Nat) : Nat → Nat := fun j => if j < i then byteS s j else 0
theorem fillB_zero (s : St) : (fun _ => 0 : Nat → Nat) = fillB s 0 := by funext j; simp [fillB]
theorem fillB_step (s : St) (i : Nat) : upd (fillB s i) i (byteS s i) = fillB s (i + 1) := by
  funext j
  unfold upd fillB
  by_cases h : j = i
  · subst h; simp
  · rw [if_neg h]
    by_cases h1 : j < i
    · rw [if_pos h1, if_pos (by omega)]
    · rw [if_neg h1, if_neg (by omega)]
theorem fillB_all (s : St) : tabK .u8 32 (fillB s 32) = tabK .u8 32 (byteS s) := tabK_congr fun i hi => by simp [fillB, hi]
theorem padN_eq (n : Nat) : padN n = 128 :: List.replicate ((119 - n % 64) % 64) 0 ++ bigN 8 (8 * n) := by
  unfold padN bigN
  congr 1
  apply List.map_congr_left
  intro i hi
  have := List.mem_range.1 hi
  rw [show (256 : Nat) ^ (8 - 1 - i) = 2 ^ (56 - 8 * i) by rw [show (256 : Nat) = 2 ^ 8 from rfl, ← Nat.pow_mul]; congr 1; omega, Nat.mul_comm n 8]
theorem tail_len (p : List Nat) : (p.drop (64 * (p.length / 64))).length = p.length % 64 := by rw [List.length_drop]; omega
/-- From a state in the midst on. -/
theorem sha_on (p : List Nat) : mixes beginS (p ++ padN p.length) ((p.length + (padN p.length).length) / 64) =
    mixes (mixes beginS p (p.length / 64)) (p.drop (64 * (p.length / 64)) ++ padN p.length) ((p.drop (64 * (p.length / 64)) ++ padN p.length).length / 64) := by
  have hl : (p.length + (padN p.length).length) / 64 = p.length / 64 + (p.drop (64 * (p.length / 64)) ++ padN p.length).length / 64 := by
    have := tail_len p
    rw [List.length_append, this]
    omega
  rw [hl, mixes_add, mixes_app _ _ _ _ (by omega), List.drop_append_of_le_length (by omega)]
end Go.Proofs.YtbcamfbbooggfaaGreat.F
end

section
/- The sum of what was written, walked. -/
set_option linter.unusedVariables false
set_option linter.unusedSimpArgs false
set_option maxRecDepth 20000
namespace Go.Proofs.YtbcamfbbooggfaaGreat.F
open Go.RowKit Go.Proofs.YtbcamfbbooggfaaGreatW.PrintWords
attribute [local go_sem ↓] Go.wp_at_zero Go.wp_at_succ

/-- A state's block. -/
def SB (W : World) (g : Nat) (s : St) : Prop := W.heap[g]? = some (.cells s.val 178 (0, 0))
theorem SB.cells {W : World} {B : Nat} {s : St} (h : SB W B s) :
    W.cell? ⟨B, 0, none⟩ = some (.int .u32 s.a) ∧ W.cell? ⟨B, 1, none⟩ = some (.int .u32 s.b) ∧ W.cell? ⟨B, 2, none⟩ = some (.int .u32 s.c) ∧ W.cell? ⟨B, 3, none⟩ = some (.int .u32 s.d) ∧
    W.cell? ⟨B, 4, none⟩ = some (.int .u32 s.e) ∧ W.cell? ⟨B, 5, none⟩ = some (.int .u32 s.f) ∧ W.cell? ⟨B, 6, none⟩ = some (.int .u32 s.g) ∧ W.cell? ⟨B, 7, none⟩ = some (.int .u32 s.h) := by
  refine ⟨?_, ?_, ?_, ?_, ?_, ?_, ?_, ?_⟩ <;> (rw [cell_of_row _ _ _ _ _ _ h]; rfl)
theorem SB.free {W : World} {B : Nat} {s : St} (h : SB W B s) (o : Nat) : W.frozen? ⟨B, o, none⟩ = false := frozen_of_row _ _ _ _ _ h
theorem setsV (s t : St) : ((((((((s.val).setIfInBounds 0 (.int .u32 t.a)).setIfInBounds 1 (.int .u32 t.b)).setIfInBounds 2 (.int .u32 t.c)).setIfInBounds 3 (.int .u32 t.d)).setIfInBounds 4 (.int .u32 t.e)).setIfInBounds 5 (.int .u32 t.f)).setIfInBounds 6 (.int .u32 t.g)).setIfInBounds 7 (.int .u32 t.h) = t.val := by
  simp [St.val]
theorem SB.put8 {W : World} {B : Nat} {s : St} (h : SB W B s) (t : St) : SB (put8 W B t) B t := by
  have h0 := heap_setCell_same W B 0 _ _ (.int .u32 t.a) h
  have h1 := heap_setCell_same _ B 1 _ _ (.int .u32 t.b) h0
  have h2 := heap_setCell_same _ B 2 _ _ (.int .u32 t.c) h1
  have h3 := heap_setCell_same _ B 3 _ _ (.int .u32 t.d) h2
  have h4 := heap_setCell_same _ B 4 _ _ (.int .u32 t.e) h3
  have h5 := heap_setCell_same _ B 5 _ _ (.int .u32 t.f) h4
  have h6 := heap_setCell_same _ B 6 _ _ (.int .u32 t.g) h5
  have h7 := heap_setCell_same _ B 7 _ _ (.int .u32 t.h) h6
  exact h7.trans (by rw [setsV])
theorem val_u8 {s : St} {i : Nat} {x : Int} (h : s.val[i]? = some (.int .u8 x)) : False := by
  unfold St.val at h
  rcases i with _ | _ | _ | _ | _ | _ | _ | _ | i <;> simp at h
/-- Bytes that are read lie in another block than a state. -/
theorem RN.apartS {W W' : World} {B : Nat} {s : St} {A : Option Addr} {xs : List Nat} (hr : RN .u8 W A xs) (h : SB W B s) (hm : ∀ k, k < W.heap.size → k ≠ B → W'.heap[k]? = W.heap[k]?) : RN .u8 W' A xs := by
  have hr' := Kd.reads_of_C (enc := encN .u8) (d := 0) (h1 := fun _ => rfl) hr
  refine Kd.C_of_reads (d := 0) ⟨hr'.1, hr'.2.1, fun hp => ?_⟩
  obtain ⟨ad, e, hc⟩ := hr'.2.2 hp
  refine ⟨ad, e, fun j hj => ?_⟩
  have hcj := hc j hj
  have hlt : (ad.add j).block < W.heap.size := World.block_lt_of_cell? _ _ hcj
  have hne : ad.block ≠ B := by
    intro e
    unfold World.cell? at hcj
    rw [add_blk, e, h] at hcj
    dsimp only at hcj
    split at hcj
    · cases hcj
    · exact val_u8 hcj
  rw [add_blk] at hlt
  have hq : W'.cell? (ad.add j) = W.cell? (ad.add j) := cell_move (by rw [add_blk]; exact hm _ hlt hne)
  exact hq.trans hcj
theorem put8_other (W : World) (B : Nat) (t : St) (k : Nat) (h : k ≠ B) : (put8 W B t).heap[k]? = W.heap[k]? := (ButB.put8 (ButB.refl B (k + 1) W) t).block k (by omega) h
theorem put8_size (W : World) (B : Nat) (t : St) : (put8 W B t).heap.size = W.heap.size := by simp [put8]
theorem put8_below {a b : World} {N B : Nat} (h : Below N a b) (hB : N ≤ B) (t : St) : Below N a (put8 b B t) :=
  (((((((h.setCell hB _).setCell hB _).setCell hB _).setCell hB _).setCell hB _).setCell hB _).setCell hB _).setCell hB _
set_option maxRecDepth 20000 in
set_option maxHeartbeats 4000000 in
theorem SumH_c (B : Nat) (p : List Nat) (C : Option Addr) (c : Nat) (W : World) (h : HB W B (mixes beginS p (p.length / 64)) (.slice C (p.drop (64 * (p.length / 64))).length c) p.length) (hC : RN .u8 W C (p.drop (64 * (p.length / 64))))
    (hcc : (p.drop (64 * (p.length / 64))).length ≤ c) (hCn : C = none → c = 0) (hpb : ∀ x ∈ p, x < 256) (hn : p.length ≤ 1000000000000000) :
    Calls Tryz.prog 39 #[.pointer (some ⟨B, 0, none⟩)] W fun e W' => e = .returned (.agg (shaA p)) ∧ Below W.heap.size W W' := by
  have hok := mixes_ok beginS_ok p (p.length / 64)
  have hfin := sha_on p
  have hl0 := tail_len p
  have hsA : shaA p = tabK .u8 32 (byteS (mixes beginS (p ++ padN p.length) ((p.length + (padN p.length).length) / 64))) := rfl
  rw [hfin, padN_eq] at hsA
  have hxb : ∀ x ∈ p.drop (64 * (p.length / 64)), x < 256 := fun x hx => hpb x (List.mem_of_mem_drop hx)
  obtain ⟨s, hs⟩ : ∃ s, mixes beginS p (p.length / 64) = s := ⟨_, rfl⟩
  obtain ⟨xs, hxs⟩ : ∃ xs, p.drop (64 * (p.length / 64)) = xs := ⟨_, rfl⟩
  obtain ⟨n, hpn⟩ : ∃ n, p.length = n := ⟨_, rfl⟩
  rw [hs] at h hok hsA
  rw [hxs] at h hC hcc hsA hxb hl0
  rw [hpn] at h hn hl0 hsA
  obtain ⟨R, hR⟩ : ∃ R, shaA p = R := ⟨_, rfl⟩
  rw [hR] at hsA ⊢
  clear hfin hs hxs hpn hR hpb
  have hz32 := zero32
  have hz8 := zero8
  have hBl := h.lt
  have hB0 : Below W.heap.size W ((W.alloc (.cells zeros32 61)).alloc (.cells zeros32 61)) := ((Below.refl _ _).alloc (Nat.le_refl _) _).alloc (by simp) _
  have hg3 : ((W.alloc (.cells zeros32 61)).alloc (.cells zeros32 61)).heap[W.heap.size + 1]? = some (.cells zeros32 61 (0, 0)) := heap_alloc2_new _ _ _
  have hg2 : ((W.alloc (.cells zeros32 61)).alloc (.cells zeros32 61)).heap[W.heap.size]? = some (.cells zeros32 61 (0, 0)) := heap_alloc2_old _ _ _
  obtain ⟨W0, hW0⟩ : ∃ W0, (W.alloc (.cells zeros32 61)).alloc (.cells zeros32 61) = W0 := ⟨_, rfl⟩
  have hs0 : W0.heap.size = W.heap.size + 2 := by rw [← hW0]; simp
  rw [hW0] at hB0 hg3 hg2
  have h0 := h.below hB0
  have hC0 := hC.below hB0
  have q8 := h0.cells.2.2.2.2.2.2.2.2.1
  have k8 := h.cells.2.2.2.2.2.2.2.2.1
  have H0 := Lib.hid h0
  have HC0 := Lib.hid hC0
  have HG3 := Lib.hid hg3
  have HG2 := Lib.hid hg2
  have HW0 := Lib.hid hW0
  have HL0 := Lib.hid hl0
  have HSA := Lib.hid hsA
  have HXB := Lib.hid hxb
  clear h0 hC0 hg3 hg2 hW0 hl0 hsA hxb h hC
  go_enter Tryz.func39, Tryz.ntmps39
  go_wp2_with fail
  rw [HW0.out]
  refine (Clone_c C c xs _ HC0.out hcc (by have := HL0.out; omega) hCn).mono ?_
  rintro e w1 ⟨v1, rfl, ho1, hb1⟩
  have hs1 := hb1.size
  have HO1 := Lib.hid ho1
  have hB1 := hB0.trans (hb1.mono hB0.size)
  have HB1 := Lib.hid hB1
  have H1 := Lib.hid (H0.out.below hb1)
  have HG3 := Lib.hid ((hb1.block _ (by omega)).trans HG3.out)
  have HG2 := Lib.hid ((hb1.block _ (by omega)).trans HG2.out)
  have hl1 : (xs.length + 1) * 1 ≤ 140737488355328 := by have := HL0.out; omega
  have HL1 := Lib.hid hl1
  clear ho1 hb1 hB1 hl1 q8 k8 hB0
  have hbr1 : Below W0.heap.size w1 w1 := Below.refl _ _
  have hbase : W0.heap.size ≤ w1.heap.size := hs1
  go_wp2_with (at_builtin; refine append_N (w0 := w1) (W := w1) W0.heap.size rfl (.tmp 17) (.tmp 18) 25 5 .u8 1 rfl Tryz.underlying25 info_u8 (by decide) v1 xs 128 rfl w1.heap.size rfl rfl HO1.out hbr1 hbase HL1.out ?_; intro v2 w2 ho2 hb2)
  have HO2 := Lib.hid ho2
  have HB2 := Lib.hid hb2
  obtain ⟨z, hz⟩ : ∃ z, (119 - n % 64) % 64 = z := ⟨_, rfl⟩
  have hsA := HSA.out
  rw [hz] at hsA
  have HSA := Lib.hid hsA
  have hxl := HL0.out
  have HZ := Lib.hid hz
  have HXL := Lib.hid hxl
  clear ho2 hb2 hsA hz hxl hbr1
  go_loopw [4] (fun vp Wr => ∃ i : Nat, i ≤ z ∧ OwnN .u8 5 Wr W0.heap.size vp (xs ++ 128 :: List.replicate i 0) ∧ Below W0.heap.size w1 Wr) (fun vp _ => z + 65 - lenV vp)
  case atStart => exact ⟨0, Nat.zero_le _, HO2.out, HB2.out⟩
  case round =>
    obtain ⟨i, hi, ho, hW⟩ := hrel
    obtain ⟨A4, c4, e4, hc4, _, _, hr4⟩ := ho.form
    subst e4
    have hll : (xs ++ 128 :: List.replicate i 0).length = xs.length + 1 + i := by simp; omega
    have hx64 : xs.length < 64 := by have := HXL.out; omega
    have hm4 := hr4.max
    by_cases hlt : i < z
    · have hne : (((xs ++ 128 :: List.replicate i 0).length : Int) % 64 != 56) = true := by
        rw [bne_iff_ne, hll]
        have := HZ.out
        have := HXL.out
        omega
      obtain ⟨ys, hys⟩ : ∃ ys, xs ++ 128 :: List.replicate i 0 = ys := ⟨_, rfl⟩
      have hnx : xs ++ 128 :: List.replicate (i + 1) 0 = ys ++ [0] := by rw [← hys, List.replicate_succ']; simp
      rw [hys] at ho hc4 hll hm4 hne ⊢
      have hly : (ys.length + 1) * 1 ≤ 140737488355328 := by have := HZ.out; omega
      have HNX := Lib.hid hnx
      have HO := Lib.hid ho
      have HLL := Lib.hid hll
      have HLY := Lib.hid hly
      have hbw : W0.heap.size ≤ wr.heap.size := Nat.le_trans hbase hW.size
      clear hys hnx ho hr4 hll hly
      go_wp2_with (at_builtin; refine append_N (w0 := w1) (W := wr) W0.heap.size rfl (.tmp 24) (.tmp 25) 25 5 .u8 1 rfl Tryz.underlying25 info_u8 (by decide) (.slice A4 ys.length c4) ys 0 rfl wr.heap.size rfl rfl HO.out hW hbw HLY.out ?_; intro v5 w5 ho5 hb5)
      refine ⟨⟨i + 1, by omega, by rw [HNX.out]; exact ho5, hb5⟩, ?_⟩
      obtain ⟨A5, c5, rfl, _⟩ := ho5.form
      have := HLL.out
      have := HZ.out
      simp [lenV]
      omega
    · have hne : (((xs ++ 128 :: List.replicate i 0).length : Int) % 64 != 56) = false := by
        rw [hll]
        have := HZ.out
        have := HXL.out
        simp
        omega
      obtain ⟨ys, hys⟩ : ∃ ys, xs ++ 128 :: List.replicate i 0 = ys := ⟨_, rfl⟩
      have hyz : ys = xs ++ 128 :: List.replicate z 0 := by rw [← hys, show i = z by omega]
      rw [hys] at ho hc4 hll hm4 hne ⊢
      have hyl : ys.length ≤ 128 := by have := HZ.out; omega
      have hyb : ∀ x ∈ ys, x < 256 := by
        rw [hyz]
        intro x hx
        rcases List.mem_append.1 hx with h | h
        · exact HXB.out x h
        · rcases List.mem_cons.1 h with h | h
          · omega
          · have := List.eq_of_mem_replicate h; omega
      have hsA := HSA.out
      rw [show xs ++ (128 :: List.replicate z 0 ++ bigN 8 (8 * n)) = ys ++ bigN 8 (8 * n) by rw [hyz]; simp] at hsA
      have hms : ∃ q, (ys ++ bigN 8 (8 * n)).length = 64 * q := by
        rw [List.length_append, bigN_len, hll]
        have := HZ.out
        have := HXL.out
        exact ⟨(xs.length + 1 + i + 8) / 64, by omega⟩
      have hBs := hW.size
      have h2 : HB wr B s (.slice C xs.length c) n := H1.out.move (hW.block B (by omega))
      obtain ⟨q0, q1, q2, q3, q4, q5, q6, q7, q8, q9⟩ := h2.cells
      have HSA2 := Lib.hid hsA
      have HYB := Lib.hid hyb
      have HMS := Lib.hid hms
      have HO := Lib.hid ho
      have HW := Lib.hid hW
      have HYL := Lib.hid hyl
      have hn8 : ((8 : Int) * n) = ((8 * n : Nat) : Int) := by omega
      have HN8 := Lib.hid hn8
      have hfx := fun w => Fixed_c (8 * n) 8 w (by omega) (by omega) (by omega) (fun h => by omega)
      have HFX := Lib.hid hfx
      clear hys hyz ho hr4 hll hyl hyb hsA hms hn8 hfx h2 q8
      go_wp2_with fail
      rw [HN8.out]
      refine (HFX.out _).mono ?_
      rintro e w6 ⟨v6, rfl, ho6, hb6⟩
      obtain ⟨A6, c6, rfl, hc6, _, _, hr6⟩ := ho6.form
      rw [bigN_len] at hc6 
      have hb6s := hb6.size
      have h6 : HB w6 B s (.slice C xs.length c) n := H1.out.move ((hb6.block B (by omega)).trans (HW.out.block B (by omega)))
      obtain ⟨p0, p1, p2, p3, p4, p5, p6, p7, p8, p9⟩ := h6.cells
      have HO6 := Lib.hid (HO.out.kept hb6)
      have hW6 : Below W0.heap.size w1 w6 := HW.out.trans (hb6.mono (by omega))
      have HW6 := Lib.hid hW6
      have HR6 := Lib.hid hr6
      clear q0 q1 q2 q3 q4 q5 q6 q7 q9 ho6 hb6 h6 hW6 hr6 p8 p9
      have hn9 : (w6.alloc (.cells zeros8 178)).heap[w6.heap.size]? = some (.cells zeros8 178 (0, 0)) := heap_alloc_new _ _
      obtain ⟨W9, hW9⟩ : ∃ W9, (w6.alloc (.cells zeros8 178)).setRow w6.heap.size s.val = W9 := ⟨_, rfl⟩
      have hb9 : Below w6.heap.size w6 W9 := by rw [← hW9]; exact below_setRow ((Below.refl _ _).alloc (Nat.le_refl _) _) (Nat.le_refl _) _
      have hs9 : SB W9 w6.heap.size s := by rw [← hW9]; exact setRow_heap _ _ _ _ _ _ hn9
      have i8 : (Tryz.prog.info? 178).map (·.size) = some s.val.size := by rw [St.val_size]; exact info8
      have z8 : zeros8.size = s.val.size := by rw [St.val_size]; simp [zeros8]
      have hzl9 : W9.heap.size = w6.heap.size + 1 := by rw [← hW9]; simp
      have HN9 := Lib.hid hn9
      have HW9 := Lib.hid hW9
      have HI8 := Lib.hid i8
      have HZ8 := Lib.hid z8
      have HO9 := Lib.hid (HO6.out.kept hb9)
      have HR9 := Lib.hid (HR6.out.below hb9)
      have HS9 := Lib.hid hs9
      have hb19 : Below W0.heap.size w1 W9 := HW6.out.trans (hb9.mono (by omega))
      have hbs9 : W0.heap.size ≤ W9.heap.size := by omega
      have HB19 := Lib.hid hb19
      have hl9 : (ys.length + (bigN 8 (8 * n)).length) * 1 ≤ 140737488355328 := by have := HYL.out; rw [bigN_len]; omega
      have HL9 := Lib.hid hl9
      have hg7 : W0.heap.size ≤ w6.heap.size := by omega
      clear hn9 hW9 i8 z8 hs9 hb19 hl9
      go_wp2_with (first | (rw [HW9.out]) | (refine wpList_store_row rfl 178 (.tmp 7) (.tmp 39) rfl w6.heap.size rfl s.val zeros8 rfl 178 HN9.out HI8.out HZ8.out (St.val_one _) ?_) | (at_builtin; refine append_NN (W := W9) W0.heap.size rfl (.tmp 40) (.tmp 41) 25 5 .u8 1 rfl Tryz.underlying25 info_u8 (by decide) (.slice A4 ys.length c4) ys (bigN 8 (8 * n)) A6 c6 rfl rfl HO9.out HR9.out hbs9 HL9.out ?_; intro v10 w10 ho10 hg10 hat10))
      have hown6 := fun b hb => (HO6.out.typed b hb).2.1
      have hb10 := below_grown HO9.out hbs9 hg10
      have hB10 : Below W0.heap.size w1 w10 := HB19.out.trans hb10
      have hs10 : SB w10 w6.heap.size s := (hg10.block _ (by omega) (fun hh => by have := hown6 _ hh.symm; omega)).trans HS9.out
      obtain ⟨A10, c10, rfl, hc10, _, hA10, hr10⟩ := ho10.form
      obtain ⟨ms, hms⟩ : ∃ ms, ys ++ bigN 8 (8 * n) = ms := ⟨_, rfl⟩
      have hmb : ∀ x ∈ ms, x < 256 := by
        rw [← hms]
        intro x hx
        rcases List.mem_append.1 hx with h | h
        · exact HYB.out x h
        · exact bigN_lt _ _ x h
      have hmq := HMS.out
      have hsA := HSA2.out
      rw [hms] at hmq hsA hc10 hr10 ⊢
      obtain ⟨q, hmq⟩ := hmq
      rw [hmq, show 64 * q / 64 = q by omega] at hsA
      have hz10 := hb10.size
      have hbg : w6.heap.size < w10.heap.size := by omega
      obtain ⟨g, hg⟩ : ∃ g, w6.heap.size = g := ⟨_, rfl⟩
      rw [hg] at hs10 hg7 hbg
      have hfr : (#[Value.pointer (some ⟨w6.heap.size, 0, none⟩)] : Array Value) = #[.pointer (some ⟨g, 0, none⟩)] := by rw [hg]
      have HS10 := Lib.hid hs10
      have HB10 := Lib.hid hB10
      have HR10 := Lib.hid hr10
      have HMB := Lib.hid hmb
      have HMQ := Lib.hid hmq
      have HSA3 := Lib.hid hsA
      have HG := Lib.hid hg
      rw [hg]
      clear hs10 hB10 hr10 hmb hmq hsA hown6 hb10 ho10 hg10 hat10 hA10 hms hfr hg hne hm4
      have hmm : (ms.length : Int) ≤ 9223372036854775807 := HR10.out.max
      go_loopw [8] (fun vb Wr => ∃ (j : Nat) (A5 : Option Addr) (c5 : Nat), j ≤ q ∧ vb = .slice A5 (ms.drop (64 * j)).length c5 ∧ RN .u8 Wr A5 (ms.drop (64 * j)) ∧ (ms.drop (64 * j)).length ≤ c5 ∧ SB Wr g (mixes s ms j) ∧ Below W0.heap.size w1 Wr ∧ g < Wr.heap.size) (fun vb _ => lenV vb)
      case atStart => exact ⟨0, A10, c10, Nat.zero_le _, by simp, by simpa using HR10.out, by simpa using hc10, HS10.out, HB10.out, hbg⟩
      case round =>
        obtain ⟨j, A5, c5, hj, rfl, hr5, hc5, h5, hB5, hg5⟩ := hrel
        by_cases hlt : j < q
        · have hok := mixes_ok hok ms j
          have hnext : mixes s ms (j + 1) = mixS (mixes s ms j) ((ms.drop (64 * j)).take 64) := rfl
          have hdn := drop_next ms j
          have hge : 64 ≤ (ms.drop (64 * j)).length := by rw [List.length_drop, HMQ.out]; omega
          obtain ⟨zs, hzs⟩ : ∃ zs, ms.drop (64 * j) = zs := ⟨_, rfl⟩
          obtain ⟨t, ht⟩ : ∃ t, mixes s ms j = t := ⟨_, rfl⟩
          have hzb : ∀ x ∈ zs.take 64, x < 256 := fun x hx => HMB.out x (by rw [← hzs] at hx; exact List.mem_of_mem_drop (List.mem_of_mem_take hx))
          rw [hzs] at hr5 hc5 hge hdn hnext ⊢
          rw [ht] at h5 hok hnext
          have hd : decide ((0 : Int) < zs.length) = true := decide_eq_true (by omega)
          obtain ⟨ad, e, hx5⟩ := hr5.at 0 (by omega)
          subst e
          obtain ⟨ad', hcut, hblk, hcutr⟩ := cut_at 64 zs.length c5 ad hge hc5
          have h64 : (zs.take 64).length = 64 := by rw [List.length_take]; omega
          have hmx := fun (W' : World) (hW : RN .u8 W' (some ad) zs) => mixed_c t (some ad) c5 (zs.take 64) W' hok (hW.take 64 hge) hzb h64 (by omega)
          obtain ⟨t2, ht2⟩ : ∃ t2, mixS t (zs.take 64) = t2 := ⟨_, rfl⟩
          rw [ht2] at hmx hnext
          unfold St.val at hmx
          obtain ⟨q0, q1, q2, q3, q4, q5, q6, q7⟩ := h5.cells
          have i64 : (64 : Int) ≤ c5 := by omega
          have i64' : (64 : Int) ≤ zs.length := by omega
          have hcut2 : ∀ W : World, (Instr.slice 25 (.slice (some ad) zs.length c5) (some (.int .i64 64)) none none).run Tryz.prog W = .ok (.slice (some ad') (zs.length - 64) (c5 - 64)) W := hcut
          have HMX := Lib.hid hmx
          have HC := Lib.hid hcut2
          have HS5 := Lib.hid h5
          have HR5 := Lib.hid hr5
          have HNX := Lib.hid hnext
          have HDN := Lib.hid hdn
          have HCR := Lib.hid hcutr
          have HB5 := Lib.hid hB5
          clear hzs ht ht2 hmx hcut hcut2 h5 hr5 h64 hzb hok hnext hdn hcutr hB5 hx5 hblk p0 p1 p2 p3 p4 p5 p6 p7
          go_wp2_with fail
          go_region_with ((go_at_call 78; refine (HMX.out wr.drew (HR5.out.move (fun _ _ => rfl))).mono ?_; rintro e w11 ⟨rfl, hb11⟩; have h11 : SB w11 g t := (hb11.block g hg5).trans HS5.out; obtain ⟨p0, p1, p2, p3, p4, p5, p6, p7⟩ := h11.cells; have z0 := h11.free 0; have z1 := h11.free 1; have z2 := h11.free 2; have z3 := h11.free 3; have z4 := h11.free 4; have z5 := h11.free 5; have z6 := h11.free 6; have z7 := h11.free 7))
          have h12 := h11.put8 t2
          have hb12 : Below W0.heap.size w1 (put8 w11 g t2) := put8_below (HB5.out.trans ((below_drew' hb11).mono (Nat.le_trans hbase HB5.out.size))) hg7 t2
          have hr12 : RN .u8 (put8 w11 g t2) (some ad') (zs.drop 64) := (HCR.out w11 zs rfl ((HR5.out.move (fun _ _ => rfl) : RN .u8 wr.drew (some ad) zs).below hb11)).apartS h11 (fun k hk hb => put8_other _ _ _ _ hb)
          have hg12 : g < (put8 w11 g t2).heap.size := by rw [put8_size]; exact Nat.lt_of_lt_of_le hg5 hb11.size
          obtain ⟨W7, hW7⟩ : ∃ W7, put8 w11 g t2 = W7 := ⟨_, rfl⟩
          rw [hW7] at h12 hb12 hr12 hg12
          have hW7' := hW7
          unfold put8 at hW7'
          rw [hW7']
          have hld : (zs.drop 64).length = zs.length - 64 := List.length_drop
          have H12 := Lib.hid h12
          have HB12 := Lib.hid hb12
          have HR12 := Lib.hid hr12
          have HLD := Lib.hid hld
          clear hW7 hW7' h12 hb12 hr12 hld h11 hb11 p0 p1 p2 p3 p4 p5 p6 p7 z0 z1 z2 z3 z4 z5 z6 z7 q0 q1 q2 q3 q4 q5 q6 q7
          have hcut := HC.out
          go_wp2_with fail
          refine ⟨⟨j + 1, some ad', c5 - 64, by omega, ?_, by rw [← HDN.out]; exact HR12.out, by rw [← HDN.out, HLD.out]; omega, by rw [HNX.out]; exact H12.out, HB12.out, hg12⟩, ?_⟩
          · rw [← HDN.out, HLD.out]
          · simp only [lenV]; omega
        · have hz : ms.drop (64 * j) = [] := List.drop_eq_nil_of_le (by rw [HMQ.out]; omega)
          rw [show j = q by omega] at h5
          have hoq := mixes_ok hok ms q
          rw [hz] at hr5 hc5 ⊢
          obtain ⟨t, ht⟩ : ∃ t, mixes s ms q = t := ⟨_, rfl⟩
          have hsA := HSA3.out
          rw [ht] at h5 hoq hsA
          have h3 : wr.heap[W.heap.size + 1]? = some (.cells (tabK .u8 32 (fillB t 0)) 61 (0, 0)) := by rw [← fillB_zero]; exact (hB5.block _ (by omega)).trans HG3.out
          have h2 : wr.heap[W.heap.size]? = some (.cells zeros32 61 (0, 0)) := (hB5.block _ (by omega)).trans HG2.out
          have hbW : Below W.heap.size W wr := HB1.out.trans (hB5.mono (by omega))
          have H5 := Lib.hid (show wr.heap[g]? = some (.cells (tabG t.at) 178 (0, 0)) from h5)
          have H3 := Lib.hid h3
          have H2 := Lib.hid h2
          have HBW := Lib.hid hbW
          have HAT := Lib.hid (St.at_lt hoq)
          have HSA4 := Lib.hid hsA
          have hgne1 : W.heap.size + 1 ≠ g := by omega
          have hgne0 : W.heap.size ≠ g := by omega
          have HN1 := Lib.hid hgne1
          have HN0 := Lib.hid hgne0
          clear h5 h3 h2 hbW ht hsA hr5 hB5 hz hoq hok p0 p1 p2 p3 p4 p5 p6 p7 hgne1 hgne0
          go_wp2_with fail
          go_loopw [52] (fun vi Wr => ∃ i : Nat, i ≤ 32 ∧ vi = .int .i64 i ∧ Wr.heap[W.heap.size + 1]? = some (.cells (tabK .u8 32 (fillB t i)) 61 (0, 0)) ∧ Wr.heap[g]? = some (.cells (tabG t.at) 178 (0, 0)) ∧ Wr.heap[W.heap.size]? = some (.cells zeros32 61 (0, 0)) ∧ Below W.heap.size W Wr) (fun vi _ => 32 - (intOf vi).toNat)
          case atStart => exact ⟨0, by omega, rfl, H3.out, H5.out, H2.out, HBW.out⟩
          case round =>
            obtain ⟨i, hi, rfl, h3, h5, h2, hbW⟩ := hrel
            by_cases hlt : i < 32
            · have hd : decide ((i : Int) < 32) = true := by simp; omega
              have i0 : (0 : Int) ≤ (i : Int) := by omega
              have i1 : (i : Int) < 32 := by omega
              have c4 := tabG_cell h5 (i / 4) (by omega)
              have ci := tabK_cell h3 i hlt
              have fi := tabK_free h3 i
              have hx := HAT.out (i / 4)
              have hst := tabK_store (x := byteS t i) h3 hlt
              rw [fillB_step] at hst
              have hby : byteS t i = t.at (i / 4) / 2 ^ (24 - 8 * (i % 4)) % 256 := rfl
              obtain ⟨x, hxe⟩ : ∃ x, t.at (i / 4) = x := ⟨_, rfl⟩
              rw [hxe] at c4 hx hby
              obtain ⟨u, hu⟩ : ∃ u : Nat, fillB t i i = u := ⟨_, rfl⟩
              rw [hu] at ci
              have h5' : (wr.setCell ⟨W.heap.size + 1, i, none⟩ (.int .u8 (byteS t i : Nat))).heap[g]? = some (.cells (tabG t.at) 178 (0, 0)) := by rw [heap_setCell_other _ _ _ _ (Ne.symm HN1.out)]; exact h5
              have h2' : (wr.setCell ⟨W.heap.size + 1, i, none⟩ (.int .u8 (byteS t i : Nat))).heap[W.heap.size]? = some (.cells zeros32 61 (0, 0)) := by rw [heap_setCell_other _ _ _ _ (by simp)]; exact h2
              have HST := Lib.hid hst
              have H5' := Lib.hid h5'
              have H2' := Lib.hid h2'
              have HBY := Lib.hid hby
              clear hst h5' h2' hby hxe hu h3 h5 h2
              go_wp2_with fail
              have hv : (x : Int) / 2 ^ (24 - 8 * (i % 4)) % 256 = ((byteS t i : Nat) : Int) := by
                rw [HBY.out, Int.natCast_emod, Int.natCast_ediv, Int.natCast_pow]; rfl
              rw [hv]
              exact ⟨⟨i + 1, by omega, by go_num, HST.out, H5'.out, H2'.out, hbW.setCell (by simp) _⟩, by simp [intOf]; omega⟩
            · have hd : decide ((i : Int) < 32) = false := by simp; omega
              rw [show i = 32 by omega, fillB_all, ← HSA4.out] at h3
              have hR := HSA4.out
              have ir : (Tryz.prog.info? 61).map (·.size) = some R.size := by rw [hR, tabK_size]; exact info32
              have or : R.all (·.oneCell') = true := by rw [hR]; exact tabK_one _ _ _
              have sr : zeros32.size = R.size := by rw [hR, tabK_size]; rfl
              have H3 := Lib.hid h3
              have H2 := Lib.hid h2
              have HIR := Lib.hid ir
              have HOR := Lib.hid or
              have HSR := Lib.hid sr
              clear h3 h2 ir or sr hR h5
              go_wp2_with (first | (refine wpList_store_row rfl 61 (.tmp 2) (.tmp 68) rfl W.heap.size rfl R zeros32 rfl 61 H2.out HIR.out HSR.out HOR.out ?_) | refine wpList_load_row rfl 61 (.tmp 3) rfl (W.heap.size + 1) rfl 61 _ (0, 0) _ H3.out Tryz.underlying61 rfl HIR.out ?_)
              (try simp only [Exit.inBlock, Exit.then])
              exact bodyPost_ret (v := .agg R) (results_cell_row rfl _ _ W.heap.size 61 R (0, 0) _ rfl (setRow_heap _ _ _ _ _ _ H2.out) Tryz.underlying61 rfl HIR.out) rfl ⟨rfl, below_setRow hbW (Nat.le_refl _) _⟩
end Go.Proofs.YtbcamfbbooggfaaGreat.F
end

section
/- The check sum's register, in plain numbers: linear, and told apart by a burst. -/
set_option linter.unusedVariables false
set_option linter.unusedSimpArgs false
namespace Go.Proofs.YtbcamfbbooggfaaGreat.F

def crcBit (r : Nat) : Nat := if r % 2 = 1 then (r / 2) ^^^ 2197175160 else r / 2
def crcBits : Nat → Nat → Nat
  | 0, r => r
  | n + 1, r => crcBits n (crcBit r)
def crcByte (r b : Nat) : Nat := crcBits 8 (r ^^^ b)
def crcN (r : Nat) (p : List Nat) : Nat := p.foldl crcByte r
def crcMore (s : Nat) (p : List Nat) : Nat := 4294967295 - crcN (4294967295 - s) p

theorem crcBit_lt {r : Nat} (h : r < 4294967296) : crcBit r < 4294967296 := by
  unfold crcBit
  split
  · exact Nat.xor_lt_two_pow (n := 32) (by omega) (by omega)
  · omega
theorem crcBits_lt (n : Nat) : ∀ {r : Nat}, r < 4294967296 → crcBits n r < 4294967296 := by
  induction n with
  | zero => intro r h; exact h
  | succ n ih => intro r h; exact ih (crcBit_lt h)
theorem crcByte_lt {r b : Nat} (h : r < 4294967296) (hb : b < 256) : crcByte r b < 4294967296 := crcBits_lt 8 (Nat.xor_lt_two_pow (n := 32) h (by omega))
theorem crcN_lt (p : List Nat) : ∀ {r : Nat}, r < 4294967296 → (∀ x ∈ p, x < 256) → crcN r p < 4294967296 := by
  induction p with
  | nil => intro r h _; exact h
  | cons b p ih => intro r h hp; exact ih (crcByte_lt h (hp b (by simp))) (fun x hx => hp x (by simp [hx]))
theorem crcN_app (r : Nat) (a b : List Nat) : crcN r (a ++ b) = crcN (crcN r a) b := by unfold crcN; rw [List.foldl_append]
theorem crcMore_lt (s : Nat) (p : List Nat) : crcMore s p < 4294967296 := by unfold crcMore; omega

end Go.Proofs.YtbcamfbbooggfaaGreat.F
end
