/- What is wrong with shards, walked. -/
import Derived.Test.YtdmfecaejdiihaaPi
import Derived.RangeFuncWrites
set_option linter.unusedVariables false
set_option linter.unusedSimpArgs false
namespace Go.Proofs.Ytdmfecaejdiihaa.F
open Go.RowKit Go.Proofs.YtdmfecaejdiihaaW.PrintWords Go.Shelf
attribute [local go_sem] Oper.semAt_some

/-- What has been seen: the last length, and what is wrong. -/
def wst (l : List HS) : Int × Int := l.foldl (fun st x => ((x.1.2.2.1 : Int), if 0 ≤ st.1 ∧ (x.1.2.2.1 : Int) ≠ st.1 then 4 else st.2)) (-1, 0)
theorem wst_snoc (l : List HS) (x : HS) : wst (l ++ [x]) = ((x.1.2.2.1 : Int), if 0 ≤ (wst l).1 ∧ (x.1.2.2.1 : Int) ≠ (wst l).1 then 4 else (wst l).2) := by
  unfold wst
  rw [List.foldl_append]
  rfl
theorem cell_far (W : World) (a b : Nat) (v : Value) (h : a ≠ b) : (W.setCell ⟨a, 0, none⟩ v).cell? ⟨b, 0, none⟩ = W.cell? ⟨b, 0, none⟩ := cell_move (a := ⟨b, 0, none⟩) (heap_setCell_other _ _ _ _ (Ne.symm h))
theorem frozen_any (W : World) (a : Addr) (v : Value) (b : Nat) : (W.setCell a v).frozen? ⟨b, 0, none⟩ = W.frozen? ⟨b, 0, none⟩ := by rw [World.frozen?_setCell]
set_option maxRecDepth 100000 in
set_option maxHeartbeats 8000000 in
theorem wrong_in (F : Fence) (n : Nat) (h3 : F.fn 18) (h6 : F.fn 22) (h8 : F.fn 33) (hro : F.round = none) (hn : 3 ≤ n) (A : Option Addr) (cap : Nat) (sv : List SD) (hsv : ∀ x ∈ sv, x.2.1 ≤ 4096) (w : World) (hI : SV w A sv) :
    CallsIn F n Try.prog 18 #[.slice A sv.length cap] w fun e W' => e = .returned (.int .i64 (wst (hsUp sv hsv sv.length)).2) ∧ Below w.heap.size w W' := by
  have h1 : 1 ≤ n := by omega
  refine callsIn_of_wp_marks Try.func18 rfl h3 ?_ hro
  simp only [Try.ntmps18, List.size_toArray, List.length_cons, List.length_nil, Nat.reduceAdd, Nat.reduceSub, Array.replicate_succ, Array.replicate_zero, List.push_toArray, List.append_toArray, List.nil_append, List.cons_append]
  gi_wp2_with (gi_at_call 22; refine (held_in F (n - 1) h6 hro _ _ _ _).mono ?_; rintro e w' ⟨rfl, rfl⟩)
  obtain ⟨W4, hW4⟩ : ∃ W4, (((w.alloc (.cells #[.int .i64 0] 25)).alloc (.cells #[.int .i64 (-1)] 3)).alloc (.cells #[.int .i64 0] 25)).alloc (.cells #[.slice A sv.length cap] 22) = W4 := ⟨_, rfl⟩
  have hB4 : Below w.heap.size w W4 := by rw [← hW4]; exact ((((Below.refl _ w).alloc (Nat.le_refl _) _).alloc (by simp) _).alloc (by simp; omega) _).alloc (by simp; omega) _
  have hs4 : W4.heap.size = w.heap.size + 4 := by rw [← hW4]; simp
  have b0 := ((Boxed.new w 25 (.int .i64 0)).alloc (.cells #[.int .i64 (-1)] 3)).alloc (.cells #[.int .i64 0] 25) |>.alloc (.cells #[.slice A sv.length cap] 22)
  have b1 := ((Boxed.new (w.alloc (.cells #[.int .i64 0] 25)) 3 (.int .i64 (-1))).alloc (.cells #[.int .i64 0] 25)).alloc (.cells #[.slice A sv.length cap] 22)
  have b2 := (Boxed.new ((w.alloc (.cells #[.int .i64 0] 25)).alloc (.cells #[.int .i64 (-1)] 3)) 25 (.int .i64 0)).alloc (.cells #[.slice A sv.length cap] 22)
  have bN := Boxed.new (((w.alloc (.cells #[.int .i64 0] 25)).alloc (.cells #[.int .i64 (-1)] 3)).alloc (.cells #[.int .i64 0] 25)) 22 (.slice A sv.length cap)
  simp only [World.size_alloc] at b1 b2 bN
  rw [hW4] at b0 b1 b2 bN ⊢
  clear hW4
  refine wpIn_rangeFunc_ownG hro h1 (gf := 33) (lb := #[.pointer (some ⟨w.heap.size + 1 + 1 + 1, 0, none⟩)]) rfl h8 (enters_of Try.func33 (by kernel_rfl) rfl)
    (held_stops F (n - 1) h8 hro (by omega) (w.heap.size + 1 + 1 + 1) w.heap.size A cap sv hsv w W4 (by omega) rfl hB4 bN.cell hI) belowK_t (belowK_b (by omega)) (Below.refl _ _) (fun _ => rfl)
    (fun pre W => (W.cell? ⟨w.heap.size, 0, none⟩ = some (.int .i64 0) ∧ W.frozen? ⟨w.heap.size, 0, none⟩ = false ∧ W.cell? ⟨w.heap.size + 1, 0, none⟩ = some (.int .i64 (wst pre).1) ∧ W.frozen? ⟨w.heap.size + 1, 0, none⟩ = false ∧
      W.cell? ⟨w.heap.size + 1 + 1, 0, none⟩ = some (.int .i64 (wst pre).2) ∧ W.frozen? ⟨w.heap.size + 1 + 1, 0, none⟩ = false) ∧ Below w.heap.size w W)
    (fun _ _ _ => False)
    (OwnFrom.and (Own.from (fun s A B row hs hg hr => ⟨cell_kept hs.1 hg hr, (frozen_kept hs.1 hg hr).trans hs.2.1, cell_kept hs.2.2.1 hg hr, (frozen_kept hs.2.2.1 hg hr).trans hs.2.2.2.1, cell_kept hs.2.2.2.2.1 hg hr, (frozen_kept hs.2.2.2.2.1 hg hr).trans hs.2.2.2.2.2⟩) _) (ownFrom_below (Nat.le_refl _) (by omega)))
    (fun _ _ _ _ _ hs _ _ => hs)
    ⟨⟨b0.cell, b0.frozen, b1.cell, b1.frozen, b2.cell, b2.frozen⟩, hB4⟩
    (fun x => { tmps := #[.slice A sv.length cap, undef, .pointer (some ⟨w.heap.size, 0, none⟩), .pointer (some ⟨w.heap.size + 1, 0, none⟩), .pointer (some ⟨w.heap.size + 1 + 1, 0, none⟩), undef, .slice x.1.2.1 x.1.2.2.1 x.1.2.2.2, .slice A sv.length cap, .func (.func 33) #[] #[.pointer (some ⟨w.heap.size + 1 + 1 + 1, 0, none⟩)], .int .i64 (x.1.1 : Int), .slice x.1.2.1 x.1.2.2.1 x.1.2.2.2, undef, undef, undef, undef, undef, undef, undef, undef, undef, undef, undef, undef, undef, undef, undef, undef], defers := [] }) ?assign ?body ?done ?stop
  case assign =>
    intro l x W K hK
    gi_wp2
    exact hK
  case body =>
    rintro l pre ⟨⟨xi, xa, xn, xc⟩, hx⟩ W ⟨⟨c0, f0, c1, f1, c2, f2⟩, hB⟩ _
    dsimp only at hx
    have hsn := wst_snoc pre ⟨⟨xi, xa, xn, xc⟩, hx⟩
    dsimp only at hsn
    obtain ⟨⟨sz, er⟩, hw⟩ : ∃ p, wst pre = p := ⟨_, rfl⟩
    rw [hw] at c1 c2 hsn
    dsimp only at c1 c2 hsn
    have d0 : decide ((4096 : Int) < xn) = false := decide_eq_false (by omega)
    by_cases hz : 0 ≤ sz
    · have d1 : decide ((0 : Int) ≤ sz) = true := decide_eq_true hz
      by_cases hne : (xn : Int) = sz
      · have d2 : ((xn : Int) != sz) = false := by simp [hne]
        rw [if_neg (by rintro ⟨_, h⟩; exact h hne)] at hsn
        have HSN := Lib.hid hsn
        have HNE := Lib.hid hne
        clear hsn hw hne
        gi_wp2
        refine ⟨(KeepsOthers.setCell _ _ _).from _, (Below.refl w.heap.size W).setCell (p := ⟨w.heap.size + 1, 0, none⟩) (by simp) _, ⟨(cell_far _ _ _ _ (by omega)).trans c0, (frozen_any _ _ _ _).trans f0, ?_, (frozen_any _ _ _ _).trans f1, ?_, (frozen_any _ _ _ _).trans f2⟩, hB.setCell (p := ⟨w.heap.size + 1, 0, none⟩) (by simp) _⟩
        · rw [HSN.out]; exact World.cell?_setCell_same' _ _ _ (by rw [c1]; rfl)
        · rw [HSN.out]; exact (cell_far _ _ _ _ (by omega)).trans c2
      · have d2 : ((xn : Int) != sz) = true := by simp [hne]
        rw [if_pos ⟨hz, hne⟩] at hsn
        have HSN := Lib.hid hsn
        clear hsn hw
        gi_wp2
        refine ⟨((KeepsOthers.setCell _ _ _).trans (KeepsOthers.setCell _ _ _)).from _, ((Below.refl w.heap.size W).setCell (p := ⟨w.heap.size + 1 + 1, 0, none⟩) (by simp; omega) _).setCell (p := ⟨w.heap.size + 1, 0, none⟩) (by simp) _, ⟨(cell_far _ _ _ _ (by omega)).trans ((cell_far _ _ _ _ (by omega)).trans c0), (frozen_any _ _ _ _).trans ((frozen_any _ _ _ _).trans f0), ?_, (frozen_any _ _ _ _).trans ((frozen_any _ _ _ _).trans f1), ?_, (frozen_any _ _ _ _).trans ((frozen_any _ _ _ _).trans f2)⟩, (hB.setCell (p := ⟨w.heap.size + 1 + 1, 0, none⟩) (by simp; omega) _).setCell (p := ⟨w.heap.size + 1, 0, none⟩) (by simp) _⟩
        · rw [HSN.out]; exact World.cell?_setCell_same' _ _ _ (by rw [cell_far _ _ _ _ (by omega), c1]; rfl)
        · rw [HSN.out]; exact (cell_far _ _ _ _ (by omega)).trans (World.cell?_setCell_same' _ _ _ (by rw [c2]; rfl))
    · have d1 : decide ((0 : Int) ≤ sz) = false := decide_eq_false hz
      rw [if_neg (by rintro ⟨h, _⟩; exact hz h)] at hsn
      have HSN := Lib.hid hsn
      clear hsn hw
      gi_wp2
      refine ⟨(KeepsOthers.setCell _ _ _).from _, (Below.refl w.heap.size W).setCell (p := ⟨w.heap.size + 1, 0, none⟩) (by simp) _, ⟨(cell_far _ _ _ _ (by omega)).trans c0, (frozen_any _ _ _ _).trans f0, ?_, (frozen_any _ _ _ _).trans f1, ?_, (frozen_any _ _ _ _).trans f2⟩, hB.setCell (p := ⟨w.heap.size + 1, 0, none⟩) (by simp) _⟩
      · rw [HSN.out]; exact World.cell?_setCell_same' _ _ _ (by rw [c1]; rfl)
      · rw [HSN.out]; exact (cell_far _ _ _ _ (by omega)).trans c2
  case done =>
    rintro D ys W hD rfl ⟨⟨c0, f0, c1, f1, c2, f2⟩, hB⟩ hK
    obtain ⟨er, hw⟩ : ∃ p, (wst (hsUp sv hsv sv.length)).2 = p := ⟨_, rfl⟩
    rw [hw] at c2
    have HW := Lib.hid hw
    clear hw
    gi_wp2
    have hK' := (KeepsOthers.setCell W ⟨w.heap.size, 0, none⟩ (.int .i64 er)).same D _ hK rfl
    refine ⟨by simp, .inl ⟨_, _, rfl, run_takeDeferred hK', ?_⟩⟩
    have hc5 := cell_kept (World.cell?_setCell_same' W ⟨w.heap.size, 0, none⟩ (.int .i64 er) (by rw [c0]; rfl)) (grownBy_putObj' _ D (.deferred none)) (fun r e => by cases e; exact ⟨_, hK', rfl⟩)
    refine ⟨.int .i64 er, ?_, by rw [HW.out], (hB.setCell (p := ⟨w.heap.size, 0, none⟩) (Nat.le_refl _) _).trans (belowK_b (w := w) (Nat.le_refl _) _ D _ _ (by omega) hK' rfl rfl)⟩
    simp [results, Try.f18, go_sem, hc5]
  case stop =>
    rintro D c pre W _ _ h _
    exact h.elim
theorem wrong_c (A : Option Addr) (cap : Nat) (sv : List SD) (hsv : ∀ x ∈ sv, x.2.1 ≤ 4096) (w : World) (hI : SV w A sv) :
    Calls Try.prog 18 #[.slice A sv.length cap] w fun e W' => e = .returned (.int .i64 (wst (hsUp sv hsv sv.length)).2) ∧ Below w.heap.size w W' :=
  (callsIn_wide (n := 3)).1 (wrong_in _ 3 trivial trivial trivial rfl (by omega) A cap sv hsv w hI)
end Go.Proofs.Ytdmfecaejdiihaa.F
