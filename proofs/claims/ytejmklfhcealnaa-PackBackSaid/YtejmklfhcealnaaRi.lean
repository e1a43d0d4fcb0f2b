/- A region that draws its order, by what holds whatever has been done. -/
import Derived.RegionTactic
import Derived.WalkKit
set_option linter.unusedVariables false
set_option linter.unusedSimpArgs false
namespace Go.Proofs.Ytejmklfhcealnaa.F

theorem cnt_set : ∀ (l : List Bool) (i : Nat), l.getD i true = false → (l.set i true).countP (! ·) + 1 = l.countP (! ·)
  | [], i, h => by simp at h
  | b :: l, 0, h => by
    have hb : b = false := by simpa using h
    subst hb
    simp
  | b :: l, i + 1, h => by
    have ih := cnt_set l i (by simpa using h)
    simp only [List.set_cons_succ, List.countP_cons]
    omega
theorem cnt_pos : ∀ (l : List Bool) (i : Nat), l.getD i true = false → 0 < l.countP (! ·) := fun l i h => by have := cnt_set l i h; omega
section
variable {P : Program} {md : Region.Mode} {ops : Array Oper} {Q : Exit → Act → World → Prop}
theorem wpAny_inv {I : Array Bool → Act → World → Prop}
    (step : ∀ listed a w i, I listed a w → i ∈ Region.ready md ops listed → wpOp P ops Q i (I (listed.setIfInBounds i true)) a w)
    (fin : ∀ listed a w, I listed a w → Region.ready md ops listed = [] → Q .normal a w) :
    ∀ (fuel : Nat) (listed : Array Bool) (a : Act) (w : World), listed.toList.countP (! ·) = fuel → I listed a w → wpAny P md ops Q fuel listed a w := by
  intro fuel
  induction fuel with
  | zero =>
    intro listed a w hc h
    have hr : Region.ready md ops listed = [] := by
      cases hr : Region.ready md ops listed with
      | nil => rfl
      | cons j r =>
        exfalso
        have hj : j ∈ Region.ready md ops listed := by rw [hr]; simp
        have h1 := (mem_ready.1 hj).1
        have h2 := cnt_pos listed.toList j (by rw [← h1]; simp [Array.getD_eq_getD_getElem?, List.getD_eq_getElem?_getD])
        omega
    exact ⟨hr, fin listed a w h hr⟩
  | succ fuel ih =>
    intro listed a w hc h
    refine ⟨fun hr => fin listed a w h hr, fun i hi => ?_⟩
    have h1 := (mem_ready.1 hi).1
    have h2 := cnt_set listed.toList i (by rw [← h1]; simp [Array.getD_eq_getD_getElem?, List.getD_eq_getElem?_getD])
    refine wpOp_mono (fun a' w' h' => ih _ a' w' ?_ h') (step listed a w i h hi)
    rw [Array.toList_setIfInBounds]
    omega
theorem wp_region_inv {I : Array Bool → Act → World → Prop} {id : Nat} {a : Act} {w : World} (hm : P.follows .mixedOrders = true)
    (start : I (Array.replicate ops.size false) a w.drew)
    (step : ∀ listed a w i, I listed a w → i ∈ Region.ready .any ops listed → wpOp P ops Q i (I (listed.setIfInBounds i true)) a w)
    (fin : ∀ listed a w, I listed a w → Region.ready .any ops listed = [] → Q .normal a w) : (Code.region id ops true).wp P Q a w :=
  wp_region_any hm (wpAny_inv step fin _ _ _ _ (by simp [List.countP_replicate]) start)
end
end Go.Proofs.Ytejmklfhcealnaa.F
