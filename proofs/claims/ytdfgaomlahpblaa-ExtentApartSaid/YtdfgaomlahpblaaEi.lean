/- Which runs are meant; a run that is the map's. -/
import Derived.Test.YtdfgaomlahpblaaEh
set_option linter.unusedVariables false
set_option linter.unusedSimpArgs false
namespace Go.Proofs.Ytdfgaomlahpblaa.F
open Go.RowKit Go.Proofs.YtdfgaomlahpblaaW.PrintWords

theorem take_pred (bx : Nat) (n : Int) (w : World) (hc : w.cell? ⟨bx, 0, none⟩ = some (.int .i64 n)) : PredB 27 #[.pointer (some ⟨bx, 0, none⟩)] (fun r => decide (n ≤ (r.2 : Int))) w := fun W r hW hr => by
  have c1 : W.cell? ⟨bx, 0, none⟩ = some (.int .i64 n) := (hW.cell (p := ⟨bx, 0, none⟩) (World.block_lt_of_cell? _ _ hc)).trans hc
  obtain ⟨a, m⟩ := r
  have hb : Below W.heap.size W (W.alloc (.cells #[.int .i64 (a : Nat), .int .i64 (m : Nat)] 38)) := (Below.refl _ _).alloc (Nat.le_refl _) _
  have HB := Lib.hid hb
  have hlt := World.block_lt_of_cell? _ _ c1
  have hne : ¬ (W.heap.size = bx) := by
    have h : bx < W.heap.size := hlt
    omega
  clear hb hW hc
  dsimp only at hr ⊢
  show Calls _ _ #[_, _] _ _
  go_enter Try.func27, Try.ntmps27
  go_wp2_with fail
  go_ret
  exact ⟨rfl, HB.out⟩
theorem claim_pred (bx a n : Nat) (w : World) (hc : w.cell? ⟨bx, 0, none⟩ = some (.int .i64 (a : Nat))) (hc1 : w.cell? ⟨bx, 1, none⟩ = some (.int .i64 (n : Nat))) (han : a + n ≤ 4096) : PredB 40 #[.pointer (some ⟨bx, 0, none⟩)] (fun r => decide ((r.1 : Int) ≤ a) && decide ((a : Int) + n ≤ (r.1 : Int) + r.2)) w := fun W r hW hr => by
  have c1 : W.cell? ⟨bx, 0, none⟩ = some (.int .i64 (a : Nat)) := (hW.cell (p := ⟨bx, 0, none⟩) (World.block_lt_of_cell? _ _ hc)).trans hc
  have c2 : W.cell? ⟨bx, 1, none⟩ = some (.int .i64 (n : Nat)) := (hW.cell (p := ⟨bx, 1, none⟩) (World.block_lt_of_cell? _ _ hc1)).trans hc1
  obtain ⟨x, m⟩ := r
  have hb : Below W.heap.size W (W.alloc (.cells #[.int .i64 (x : Nat), .int .i64 (m : Nat)] 38)) := (Below.refl _ _).alloc (Nat.le_refl _) _
  have HB := Lib.hid hb
  have hlt := World.block_lt_of_cell? _ _ c1
  have hne : ¬ (W.heap.size = bx) := by
    have h : bx < W.heap.size := hlt
    omega
  clear hb hW hc hc1
  dsimp only at hr ⊢
  have n1 : (a : Int) + n ≤ 4096 := by omega
  have n2 : (x : Int) + m ≤ 4096 := by omega
  have n3 : (0 : Int) ≤ (a : Int) + n := by omega
  have n4 : (0 : Int) ≤ (x : Int) + m := by omega
  show Calls _ _ #[_, _] _ _
  by_cases h : (x : Int) ≤ a
  · have hd : decide ((x : Int) ≤ a) = true := decide_eq_true h
    have hd2 : decide (x ≤ a) = true := decide_eq_true (by omega)
    go_enter Try.func40, Try.ntmps40
    go_wp2_with fail
    all_goals
      go_ret
      exact ⟨by simp [h]; try omega, HB.out⟩
  · have hd : decide ((x : Int) ≤ a) = false := decide_eq_false h
    have hd2 : decide (x ≤ a) = false := decide_eq_false (by omega)
    go_enter Try.func40, Try.ntmps40
    go_wp2_with fail
    all_goals
      go_ret
      exact ⟨by simp [h]; try omega, HB.out⟩
theorem give_pred (bx a n : Nat) (w : World) (hc : w.cell? ⟨bx, 0, none⟩ = some (.int .i64 (a : Nat))) (hc1 : w.cell? ⟨bx, 1, none⟩ = some (.int .i64 (n : Nat))) (han : a + n ≤ 4096) : PredB 31 #[.pointer (some ⟨bx, 0, none⟩)] (fun r => decide ((r.1 : Int) < (a : Int) + n) && decide ((a : Int) < (r.1 : Int) + r.2)) w := fun W r hW hr => by
  have c1 : W.cell? ⟨bx, 0, none⟩ = some (.int .i64 (a : Nat)) := (hW.cell (p := ⟨bx, 0, none⟩) (World.block_lt_of_cell? _ _ hc)).trans hc
  have c2 : W.cell? ⟨bx, 1, none⟩ = some (.int .i64 (n : Nat)) := (hW.cell (p := ⟨bx, 1, none⟩) (World.block_lt_of_cell? _ _ hc1)).trans hc1
  obtain ⟨x, m⟩ := r
  have hb : Below W.heap.size W (W.alloc (.cells #[.int .i64 (x : Nat), .int .i64 (m : Nat)] 38)) := (Below.refl _ _).alloc (Nat.le_refl _) _
  have HB := Lib.hid hb
  have hlt := World.block_lt_of_cell? _ _ c1
  have hne : ¬ (W.heap.size = bx) := by
    have h : bx < W.heap.size := hlt
    omega
  clear hb hW hc hc1
  dsimp only at hr ⊢
  have n1 : (a : Int) + n ≤ 4096 := by omega
  have n2 : (x : Int) + m ≤ 4096 := by omega
  have n3 : (0 : Int) ≤ (a : Int) + n := by omega
  have n4 : (0 : Int) ≤ (x : Int) + m := by omega
  show Calls _ _ #[_, _] _ _
  by_cases h : (x : Int) < (a : Int) + n
  · have hd : decide ((x : Int) < (a : Int) + n) = true := decide_eq_true h
    go_enter Try.func31, Try.ntmps31
    go_wp2_with fail
    all_goals
      go_ret
      exact ⟨by simp [h]; try omega, HB.out⟩
  · have hd : decide ((x : Int) < (a : Int) + n) = false := decide_eq_false h
    go_enter Try.func31, Try.ntmps31
    go_wp2_with fail
    all_goals
      go_ret
      exact ⟨by simp [h]; try omega, HB.out⟩
/-- Is a run a map's? -/
def withinB (f t : Nat) (a n : Int) : Bool := decide (1 ≤ n ∧ (f : Int) ≤ a ∧ a < (t : Int) ∧ n ≤ (t : Int) - a)
set_option maxRecDepth 20000 in
set_option maxHeartbeats 4000000 in
theorem within_c (b f t : Nat) (v : Value) (a n : Int) (w : World) (hm : EMb w b f t v) (ht : t ≤ 5000) (ha : -9223372036854775808 ≤ a ∧ a ≤ 9223372036854775807) :
    Calls Try.prog 29 #[.pointer (some ⟨b, 0, none⟩), .agg #[.int .i64 a, .int .i64 n]] w fun e w' => e = .returned (.bool (withinB f t a n)) ∧ Below w.heap.size w w' := by
  have c0 := hm.c0
  have c1 := hm.c1
  have hlt := hm.lt
  obtain ⟨r, hr⟩ : ∃ r, withinB f t a n = r := ⟨_, rfl⟩
  have hb : Below w.heap.size w (w.alloc (.cells #[.int .i64 a, .int .i64 n] 38)) := (Below.refl _ _).alloc (Nat.le_refl _) _
  have HB := Lib.hid hb
  have hne : ¬ (w.heap.size = b) := by omega
  have n0 : (t : Int) ≤ 5000 := by omega
  obtain ⟨ha1, ha2⟩ := ha
  rw [hr]
  clear hb hm
  have k0 : ∀ n, ((w.alloc (.cells #[.int .i64 a, .int .i64 n] 38)).cell? ⟨b, 0, none⟩) = some (.int .i64 (f : Nat)) := fun n => ((Below.refl w.heap.size w).alloc (Nat.le_refl _) (.cells #[.int .i64 a, .int .i64 n] 38)).cell (p := ⟨b, 0, none⟩) hlt |>.trans c0
  by_cases h1 : 1 ≤ n
  · have d1 : decide (1 ≤ n) = true := decide_eq_true h1
    by_cases h2 : (f : Int) ≤ a
    · have d2 : decide ((f : Int) ≤ a) = true := decide_eq_true h2
      by_cases h3 : a < (t : Int)
      · have d3 : decide (a < (t : Int)) = true := decide_eq_true h3
        have hw : IntKind.i64.wrap ((t : Int) - a) = (t : Int) - a := by rw [IntKind.wrap_i64]; omega
        have hr2 : r = decide (n ≤ (t : Int) - a) := by
          rw [← hr]
          unfold withinB
          simp [h1, h2, h3]
        have HR := Lib.hid hr2
        clear hr hr2
        go_enter Try.func29, Try.ntmps29
        go_wp2_with fail
        go_quiet (fail)
        go_wp2_with fail
        go_ret
        rw [HR.out]
        exact ⟨rfl, pw_below_drewN HB.out _⟩
      · have d3 : decide (a < (t : Int)) = false := decide_eq_false h3
        have hr2 : r = false := by rw [← hr]; exact decide_eq_false (fun h => h3 h.2.2.1)
        have HR := Lib.hid hr2
        clear hr hr2
        go_enter Try.func29, Try.ntmps29
        go_wp2_with fail
        go_quiet (fail)
        go_wp2_with fail
        go_ret
        rw [HR.out]
        exact ⟨rfl, pw_below_drewN HB.out _⟩
    · have d2 : decide ((f : Int) ≤ a) = false := decide_eq_false h2
      have hr2 : r = false := by rw [← hr]; exact decide_eq_false (fun h => h2 h.2.1)
      have HR := Lib.hid hr2
      clear hr hr2
      go_enter Try.func29, Try.ntmps29
      go_wp2_with fail
      go_quiet (fail)
      go_wp2_with fail
      go_ret
      rw [HR.out]
      exact ⟨rfl, pw_below_drewN HB.out _⟩
  · have d1 : decide (1 ≤ n) = false := decide_eq_false h1
    have hr2 : r = false := by rw [← hr]; exact decide_eq_false (fun h => h1 h.1)
    have HR := Lib.hid hr2
    clear hr hr2
    go_enter Try.func29, Try.ntmps29
    go_wp2_with fail
    go_quiet (fail)
    go_wp2_with fail
    go_ret
    rw [HR.out]
    exact ⟨rfl, pw_below_drewN HB.out _⟩
end Go.Proofs.Ytdfgaomlahpblaa.F
