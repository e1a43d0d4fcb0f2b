/- Numbers as bytes, walked. -/
import Derived.Test.YtejmklfhcealnaaCl
import Derived.IntWalk
set_option linter.unusedVariables false
set_option linter.unusedSimpArgs false
namespace Go.Proofs.Ytejmklfhcealnaa.F
open Go.RowKit Go.Proofs.YtejmklfhcealnaaW.PrintWords

theorem number_c (n : Nat) (w : World) (hn : n ≤ 9007199254740991) :
    Calls Try.prog 57 #[.int .i64 n] w fun e w' => e = .returned (.bool true) ∧ w' = w := by
  have h0 : decide ((0 : Int) ≤ n) = true := decide_eq_true (by omega)
  have h1 : decide ((n : Int) ≤ 9007199254740991) = true := decide_eq_true (by omega)
  go_enter Try.func57, Try.ntmps57
  go_wp2_with fail
  go_ret
  exact ⟨rfl, rfl⟩
/-- The lowest bytes of a number in k bytes, from place i on. -/
def bigF (k n i : Nat) : List Nat := (List.range k).map fun t => if i ≤ t then n / 256 ^ (k - 1 - t) % 256 else 0
/-- A number in k bytes, the highest one first. -/
def bigN (k n : Nat) : List Nat := (List.range k).map fun t => n / 256 ^ (k - 1 - t) % 256
theorem bigF_zero (k n : Nat) : bigF k n 0 = bigN k n := by unfold bigF bigN; simp
theorem bigF_start (k n : Nat) : bigF k n k = List.replicate k 0 := by
  unfold bigF
  apply List.ext_getElem
  · simp
  · intro i h1 h2
    simp at h1
    simp
    omega
theorem bigF_len (k n i : Nat) : (bigF k n i).length = k := by simp [bigF]
theorem bigN_len (k n : Nat) : (bigN k n).length = k := by simp [bigN]
theorem bigF_set (k n u : Nat) (h : u < k) : (bigF k n (u + 1)).set u (n / 256 ^ (k - 1 - u) % 256) = bigF k n u := by
  unfold bigF
  apply List.ext_getElem
  · simp
  · intro i h1 h2
    simp at h1
    rw [List.getElem_set]
    by_cases e : u = i
    · subst e; simp
    · rw [if_neg e]
      simp only [List.getElem_map, List.getElem_range]
      by_cases h3 : u ≤ i
      · rw [if_pos (by omega), if_pos h3]
      · rw [if_neg (by omega), if_neg h3]
theorem bigN_lt (k n : Nat) : ∀ x ∈ bigN k n, x < 256 := by
  intro x hx
  obtain ⟨i, _, rfl⟩ := List.mem_map.1 hx
  exact Nat.mod_lt _ (by omega)
theorem made_N {W : World} {base : Nat} {e : TypeId} {k : IntKind} {m : Nat} (hb : base ≤ W.heap.size) (hm : m ≤ 9223372036854775807) :
    OwnN k e (W.alloc (.cells (madeCells #[.int k 0] m) e)) base (.slice (some ⟨W.heap.size, 0, none⟩) m m) (List.replicate m 0) := by
  have h := own_made W base e k m hb hm
  unfold OwnN
  rw [List.length_replicate]
  have e1 : nums k (List.replicate m 0) = (List.replicate m 0).map (encN k) := by simp [nums, encN]
  rw [← e1]
  exact h
theorem OwnN.cellAt {k : IntKind} {e : TypeId} {W : World} {base g cap : Nat} {xs : List Nat} (h : OwnN k e W base (.slice (some ⟨g, 0, none⟩) xs.length cap) xs) (j : Nat) (hj : j < xs.length) : W.cell? ⟨g, j, none⟩ = some (.int k (xs[j] : Nat)) := by
  have h' : W.ownsRow base e 1 (.slice (some ⟨g, 0, none⟩) xs.length cap) xs.length (xs.map (encN k)) := h
  rw [h'.cellAt j (by omega)]
  simp [hj, encN]
theorem OwnN.frozenAt {k : IntKind} {e : TypeId} {W : World} {base g cap : Nat} {xs : List Nat} (h : OwnN k e W base (.slice (some ⟨g, 0, none⟩) xs.length cap) xs) (j : Nat) : W.frozen? ⟨g, j, none⟩ = false :=
  World.ownsRow.frozenAt (show W.ownsRow base e 1 (.slice (some ⟨g, 0, none⟩) xs.length cap) xs.length (xs.map (encN k)) from h) j
theorem OwnN.stored {k : IntKind} {e : TypeId} {W : World} {base g cap : Nat} {xs : List Nat} (h : OwnN k e W base (.slice (some ⟨g, 0, none⟩) xs.length cap) xs) (j x : Nat) : OwnN k e (W.setCell ⟨g, j, none⟩ (.int k (x : Nat))) base (.slice (some ⟨g, 0, none⟩) xs.length cap) (xs.set j x) := by
  have h' : W.ownsRow base e 1 (.slice (some ⟨g, 0, none⟩) xs.length cap) xs.length (xs.map (encN k)) := h
  have := (h'.stored j (.int k (x : Nat))).1
  unfold OwnN
  rw [List.length_set, List.map_set]
  exact this
theorem pow_step (n j : Nat) : n / 256 ^ j / 256 = n / 256 ^ (j + 1) := by rw [Nat.div_div_eq_div_mul, Nat.pow_succ]
set_option maxHeartbeats 1000000 in
theorem Fixed_c (n k : Nat) (w : World) (hk1 : 1 ≤ k) (hk8 : k ≤ 8) (hn : n ≤ 9007199254740991) (hfit : k < 7 → n < 256 ^ k) :
    Calls Try.prog 47 #[.int .i64 n, .int .i64 k] w fun e w' => ∃ v, e = .returned (.tuple #[v, .int .i64 0]) ∧ OwnN .u8 5 w' w.heap.size v (bigN k n) ∧ Below w.heap.size w w' := by
  have d1 : decide ((k : Int) < 1) = false := decide_eq_false (by omega)
  have d2 : decide ((8 : Int) < k) = false := decide_eq_false (by omega)
  have hmk := print_make 27 5 .u8 1 Try.underlying27 info_u8 (by decide) k (by omega)
  have hO := made_N (W := w) (base := w.heap.size) (e := 5) (k := .u8) (m := k) (Nat.le_refl _) (by omega)
  have hB : Below w.heap.size w (w.alloc (.cells (madeCells #[.int .u8 0] k) 5)) := (Below.refl _ _).alloc (Nat.le_refl _) _
  obtain ⟨W0, hW0⟩ : ∃ W0, w.alloc (.cells (madeCells #[.int .u8 0] k) 5) = W0 := ⟨_, rfl⟩
  rw [hW0] at hO hB
  rw [← bigF_start k n] at hO
  have HO := Lib.hid hO
  have HW0 := Lib.hid hW0
  have hnum := fun w => number_c n w hn
  have HNUM := Lib.hid hnum
  have HF := Lib.hid hfit
  clear hO hW0 hnum hfit
  by_cases h7 : k < 7
  · have d3 : decide ((k : Int) < 7) = true := decide_eq_true (by omega)
    have d4 : decide ((0 : Int) < (n : Int) / 2 ^ (8 * k)) = false := by
      have h := HF.out h7
      rw [show (256 : Nat) = 2 ^ 8 from rfl, ← Nat.pow_mul] at h
      have h2 : n / 2 ^ (8 * k) = 0 := Nat.div_eq_of_lt h
      have h3 : (n : Int) / 2 ^ (8 * k) = ((n / 2 ^ (8 * k) : Nat) : Int) := by rw [Int.natCast_ediv, Int.natCast_pow]; rfl
      rw [h3, h2]; rfl
    go_enter Try.func47, Try.ntmps47
    go_wp2_with ((with_reducible refine (HNUM.out _).mono ?_); rintro e w1 ⟨rfl, rfl⟩)
    rw [HW0.out]
    clear hmk d1 d2
    go_loopw [0, 7] (fun vn vi W => ∃ i : Nat, i ≤ k ∧ vi = .int .i64 ((i : Int) - 1) ∧ vn = .int .i64 (n / 256 ^ (k - i) : Nat) ∧ OwnN .u8 5 W w1.heap.size (.slice (some ⟨w1.heap.size, 0, none⟩) k k) (bigF k n i) ∧ Below w1.heap.size w1 W) (fun _ vi _ => (intOf vi + 1).toNat)
    case atStart => exact ⟨k, Nat.le_refl _, rfl, by simp, HO.out, hB⟩
    case round =>
      obtain ⟨i, hi, rfl, rfl, ho, hW⟩ := hrel
      have HOI := Lib.hid ho
      clear ho
      rcases i with _ | u
      · have hd : decide ((0 : Int) ≤ ((0 : Nat) : Int) - 1) = false := by decide
        have ho := HOI.out
        rw [bigF_zero] at ho
        have HOE := Lib.hid ho
        clear ho
        go_wp2_with fail
        go_ret2
        exact ⟨_, rfl, HOE.out, hW⟩
      · have e1 : ((u + 1 : Nat) : Int) - 1 = (u : Int) := by omega
        rw [e1]
        have hd : decide ((0 : Int) ≤ (u : Int)) = true := decide_eq_true (by omega)
        have i0 : (0 : Int) ≤ (u : Int) := by omega
        have i1 : (u : Int) < k := by omega
        have hq := pow_step n (k - (u + 1))
        rw [show k - (u + 1) + 1 = k - u by omega] at hq
        have ho := HOI.out
        have hset := bigF_set k n u (by omega)
        rw [show k - 1 - u = k - (u + 1) by omega] at hset
        have hbl := bigF_len k n (u + 1)
        have hql : n / 256 ^ (k - (u + 1)) ≤ 9007199254740991 := Nat.le_trans (Nat.div_le_self _ _) hn
        obtain ⟨q, hqq⟩ : ∃ q, n / 256 ^ (k - (u + 1)) = q := ⟨_, rfl⟩
        rw [hqq] at hq hset hql ⊢
        obtain ⟨xs, hxs⟩ : ∃ xs, bigF k n (u + 1) = xs := ⟨_, rfl⟩
        rw [hxs] at ho hset hbl
        have ho' : OwnN .u8 5 wr w1.heap.size (.slice (some ⟨w1.heap.size, 0, none⟩) xs.length k) xs := by rw [hbl]; exact ho
        obtain ⟨y, cu⟩ : ∃ y : Nat, wr.cell? ⟨w1.heap.size, u, none⟩ = some (.int .u8 (y : Nat)) := ⟨_, ho'.cellAt u (by omega)⟩
        have fu := ho'.frozenAt u
        have hst := ho'.stored u (q % 256)
        rw [hset, hbl] at hst
        have HST := Lib.hid hst
        have HQ := Lib.hid hq
        have hqm : ((q : Int) % 256) = ((q % 256 : Nat) : Int) := by omega
        have HQM := Lib.hid hqm
        clear hqq hxs hq hset hbl hqm ho ho' hst e1 HOI
        go_wp2_with fail
        rw [HQM.out]
        refine ⟨⟨u, by omega, rfl, ?_, HST.out, hW.setCell (Nat.le_refl _) _⟩, by simp [intOf]⟩
        rw [← HQ.out]; rfl
  · have d3 : decide ((k : Int) < 7) = false := decide_eq_false (by omega)
    go_enter Try.func47, Try.ntmps47
    go_wp2_with ((with_reducible refine (HNUM.out _).mono ?_); rintro e w1 ⟨rfl, rfl⟩)
    rw [HW0.out]
    clear hmk d1 d2
    go_loopw [0, 7] (fun vn vi W => ∃ i : Nat, i ≤ k ∧ vi = .int .i64 ((i : Int) - 1) ∧ vn = .int .i64 (n / 256 ^ (k - i) : Nat) ∧ OwnN .u8 5 W w1.heap.size (.slice (some ⟨w1.heap.size, 0, none⟩) k k) (bigF k n i) ∧ Below w1.heap.size w1 W) (fun _ vi _ => (intOf vi + 1).toNat)
    case atStart => exact ⟨k, Nat.le_refl _, rfl, by simp, HO.out, hB⟩
    case round =>
      obtain ⟨i, hi, rfl, rfl, ho, hW⟩ := hrel
      have HOI := Lib.hid ho
      clear ho
      rcases i with _ | u
      · have hd : decide ((0 : Int) ≤ ((0 : Nat) : Int) - 1) = false := by decide
        have ho := HOI.out
        rw [bigF_zero] at ho
        have HOE := Lib.hid ho
        clear ho
        go_wp2_with fail
        go_ret2
        exact ⟨_, rfl, HOE.out, hW⟩
      · have e1 : ((u + 1 : Nat) : Int) - 1 = (u : Int) := by omega
        rw [e1]
        have hd : decide ((0 : Int) ≤ (u : Int)) = true := decide_eq_true (by omega)
        have i0 : (0 : Int) ≤ (u : Int) := by omega
        have i1 : (u : Int) < k := by omega
        have hq := pow_step n (k - (u + 1))
        rw [show k - (u + 1) + 1 = k - u by omega] at hq
        have ho := HOI.out
        have hset := bigF_set k n u (by omega)
        rw [show k - 1 - u = k - (u + 1) by omega] at hset
        have hbl := bigF_len k n (u + 1)
        have hql : n / 256 ^ (k - (u + 1)) ≤ 9007199254740991 := Nat.le_trans (Nat.div_le_self _ _) hn
        obtain ⟨q, hqq⟩ : ∃ q, n / 256 ^ (k - (u + 1)) = q := ⟨_, rfl⟩
        rw [hqq] at hq hset hql ⊢
        obtain ⟨xs, hxs⟩ : ∃ xs, bigF k n (u + 1) = xs := ⟨_, rfl⟩
        rw [hxs] at ho hset hbl
        have ho' : OwnN .u8 5 wr w1.heap.size (.slice (some ⟨w1.heap.size, 0, none⟩) xs.length k) xs := by rw [hbl]; exact ho
        obtain ⟨y, cu⟩ : ∃ y : Nat, wr.cell? ⟨w1.heap.size, u, none⟩ = some (.int .u8 (y : Nat)) := ⟨_, ho'.cellAt u (by omega)⟩
        have fu := ho'.frozenAt u
        have hst := ho'.stored u (q % 256)
        rw [hset, hbl] at hst
        have HST := Lib.hid hst
        have HQ := Lib.hid hq
        have hqm : ((q : Int) % 256) = ((q % 256 : Nat) : Int) := by omega
        have HQM := Lib.hid hqm
        clear hqq hxs hq hset hbl hqm ho ho' hst e1 HOI
        go_wp2_with fail
        rw [HQM.out]
        refine ⟨⟨u, by omega, rfl, ?_, HST.out, hW.setCell (Nat.le_refl _) _⟩, by simp [intOf]⟩
        rw [← HQ.out]; rfl
end Go.Proofs.Ytejmklfhcealnaa.F
