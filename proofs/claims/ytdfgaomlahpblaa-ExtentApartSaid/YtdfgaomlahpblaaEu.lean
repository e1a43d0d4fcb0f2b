/- The document's map claims, gives, forks. -/
import Derived.Test.YtdfgaomlahpblaaEt
set_option linter.unusedVariables false
set_option linter.unusedSimpArgs false
namespace Go.Proofs.Ytdfgaomlahpblaa.F
open Go.RowKit Go.Proofs.YtdfgaomlahpblaaW.PrintWords

def MineAns (r : Bool) (d : Int) (w : World) (e : Ending) (w' : World) : Prop := ∃ x : Int, e = .returned (.tuple #[.int .i64 x, .bool r]) ∧ (r = true → x = d) ∧ Below w.heap.size w w'
set_option maxRecDepth 20000 in
set_option maxHeartbeats 8000000 in
theorem mine_r (b f : Nat) (T : List Bool) (a n : Int) (w : World) (hm : EY w b f T) (hT : T.length ≤ 10000) (hf : f ≤ 10000) (ha : -9223372036854775808 ≤ a ∧ a ≤ 9223372036854775807) :
    Calls Try.prog 46 #[.pointer (some ⟨b, 0, none⟩), .agg #[.int .i64 a, .int .i64 n]] w (MineAns (withinB f (f + T.length) a n) (a - f) w) := by
  have hb := hm.lt
  obtain ⟨A, c, hg, hr, hc⟩ := hm
  obtain ⟨ha1, ha2⟩ := ha
  have hbox : Below w.heap.size w (w.alloc (.cells #[.int .i64 a, .int .i64 n] 38)) := (Below.refl _ _).alloc (Nat.le_refl _) _
  have hgn : (w.alloc (.cells #[.int .i64 a, .int .i64 n] 38)).heap[w.heap.size]? = some (.cells #[.int .i64 a, .int .i64 n] 38 (0, 0)) := heap_alloc_new w _
  have hg1 := (hbox.block b hb).trans hg
  obtain ⟨W1, hW1⟩ : ∃ W1, w.alloc (.cells #[.int .i64 a, .int .i64 n] 38) = W1 := ⟨_, rfl⟩
  rw [hW1] at hbox hgn hg1
  have k0 : W1.cell? ⟨w.heap.size, 0, none⟩ = some (.int .i64 a) := by rw [cell_of_row _ _ _ _ _ _ hgn]; rfl
  have k1 : W1.cell? ⟨w.heap.size, 1, none⟩ = some (.int .i64 n) := by rw [cell_of_row _ _ _ _ _ _ hgn]; rfl
  have c0 : W1.cell? ⟨b, 0, none⟩ = some (.int .i64 (f : Nat)) := by rw [cell_of_row _ _ _ _ _ _ hg1]; rfl
  have c1 : W1.cell? ⟨b, 1, none⟩ = some (.slice A T.length c) := by rw [cell_of_row _ _ _ _ _ _ hg1]; rfl
  obtain ⟨r, hrr⟩ : ∃ r, withinB f (f + T.length) a n = r := ⟨_, rfl⟩
  have HW1 := Lib.hid hW1
  have HB := Lib.hid hbox
  have n0 : (T.length : Int) ≤ 10000 := by omega
  have n1 : (f : Int) ≤ 10000 := by omega
  rw [hrr]
  clear hg hr hc hbox hgn hg1 hW1
  by_cases h1 : n < 1
  · have d1 : decide (n < 1) = true := decide_eq_true h1
    have hr2 : r = false := by rw [← hrr]; exact decide_eq_false (fun h => by omega)
    have HR := Lib.hid hr2
    clear hrr hr2
    go_enter Try.func46, Try.ntmps46
    go_wp2_with fail
    rw [HW1.out]
    go_quiet (fail)
    go_wp2_with fail
    go_ret2
    rw [HR.out]
    exact ⟨_, rfl, fun h => (by cases h), pw_below_drewN HB.out _⟩
  · have d1 : decide (n < 1) = false := decide_eq_false h1
    by_cases h2 : a < (f : Int)
    · have d2 : decide (a < (f : Int)) = true := decide_eq_true h2
      have hr2 : r = false := by rw [← hrr]; exact decide_eq_false (fun h => by omega)
      have HR := Lib.hid hr2
      clear hrr hr2
      go_enter Try.func46, Try.ntmps46
      go_wp2_with fail
      rw [HW1.out]
      go_quiet (fail)
      go_wp2_with fail
      go_ret2
      rw [HR.out]
      exact ⟨_, rfl, fun h => (by cases h), pw_below_drewN HB.out _⟩
    · have d2 : decide (a < (f : Int)) = false := decide_eq_false h2
      have wr1 : IntKind.i64.wrap (a - f) = a - f := by rw [IntKind.wrap_i64]; omega
      by_cases h3 : (T.length : Int) ≤ a - f
      · have d3 : decide ((T.length : Int) ≤ a - f) = true := decide_eq_true h3
        have hr2 : r = false := by rw [← hrr]; exact decide_eq_false (fun h => by omega)
        have HR := Lib.hid hr2
        clear hrr hr2
        go_enter Try.func46, Try.ntmps46
        go_wp2_with fail
        rw [HW1.out]
        go_quiet (fail)
        go_wp2_with fail
        go_ret2
        rw [HR.out]
        exact ⟨_, rfl, fun h => (by cases h), pw_below_drewN HB.out _⟩
      · have d3 : decide ((T.length : Int) ≤ a - f) = false := decide_eq_false h3
        have wr2 : IntKind.i64.wrap ((T.length : Int) - (a - f)) = (T.length : Int) - (a - f) := by rw [IntKind.wrap_i64]; omega
        have hr2 : r = decide (n ≤ (T.length : Int) - (a - f)) := by
          rw [← hrr]
          unfold withinB
          congr 1
          apply propext
          omega
        have HR := Lib.hid hr2
        have k2 : a - f < (T.length : Int) := by omega
        have k3 : 0 ≤ a - f := by omega
        clear hrr hr2
        go_enter Try.func46, Try.ntmps46
        go_wp2_with fail
        rw [HW1.out]
        go_quiet (fail)
        go_wp2_with fail
        generalize hWq : World.drewN W1 _ = wq
        have hbq : Below w.heap.size w wq := by rw [← hWq]; exact pw_below_drewN HB.out _
        have k0q : wq.cell? ⟨w.heap.size, 0, none⟩ = some (.int .i64 a) := by rw [← hWq]; exact k0
        have k1q : wq.cell? ⟨w.heap.size, 1, none⟩ = some (.int .i64 n) := by rw [← hWq]; exact k1
        have c0q : wq.cell? ⟨b, 0, none⟩ = some (.int .i64 (f : Nat)) := by rw [← hWq]; exact c0
        have c1q : wq.cell? ⟨b, 1, none⟩ = some (.slice A T.length c) := by rw [← hWq]; exact c1
        have HBQ := Lib.hid hbq
        clear hWq hbq k0 k1 c0 c1
        go_quiet (fail)
        go_wp2_with fail
        generalize hWr : World.drewN wq _ = wr
        have hbr : Below w.heap.size w wr := by rw [← hWr]; exact pw_below_drewN HBQ.out _
        have k1r : wr.cell? ⟨w.heap.size, 1, none⟩ = some (.int .i64 n) := by rw [← hWr]; exact k1q
        have c1r : wr.cell? ⟨b, 1, none⟩ = some (.slice A T.length c) := by rw [← hWr]; exact c1q
        have HBR := Lib.hid hbr
        clear hWr hbr k0q k1q c0q c1q
        go_quiet (fail)
        go_wp2_with fail
        go_ret2
        rw [HR.out]
        exact ⟨_, rfl, fun _ => rfl, pw_below_drewN HBR.out _⟩
end Go.Proofs.Ytdfgaomlahpblaa.F
