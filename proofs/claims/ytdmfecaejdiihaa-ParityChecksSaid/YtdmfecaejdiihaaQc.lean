/- A region that draws its order, inside a round of a loop over a function: the plain law serves. -/
import Derived.Test.YtdmfecaejdiihaaQb
import Derived.OrdersIn
import Derived.OrdersHeld
import Derived.OwnWalkIn
set_option linter.unusedVariables false
set_option linter.unusedSimpArgs false
namespace Go.Proofs.Ytdmfecaejdiihaa.F
open Go.RowKit Go.Proofs.YtdmfecaejdiihaaW.PrintWords

theorem op_in_round {P : Program} {ops : Array Oper} {Q : Exit → Act → World → Prop} (l n : Nat) (hnd : ∀ o ∈ ops.toList, ∀ c, o.op ≠ .defer c) (hLO : ¬ LetsOut Q) (i : Nat) (K : Act → World → Prop) (a : Act) (w : World) (h : wpOp P ops Q i K a w) : wpOpIn (Fence.wide.inRound l) n P ops Q i K a w := by
  unfold wpOp at h
  unfold wpOpIn
  cases ho : ops[i]? with
  | none => rw [ho] at h; exact h
  | some o =>
    rw [ho] at h
    dsimp only at h ⊢
    have hmem : o ∈ ops.toList := by
      obtain ⟨hi, rfl⟩ := Array.getElem?_eq_some_iff.1 ho
      exact Array.getElem_mem_toList hi
    by_cases hw : Region.wanted o (yielded ops a.tmps) = true
    · rw [if_pos hw] at h ⊢
      rcases h with h | ⟨_, h⟩
      · unfold Oper.wp at h
        unfold Oper.wpIn
        refine ⟨fun f _ => trivial, ?_⟩
        rw [Oper.semAt_plain _ _ _ (hnd o hmem)]
        generalize (execOp a.eval o).run P w = r at h ⊢
        cases r with
        | ok x w' =>
          cases x <;> simp only [Oper.upon, Oper.uponIn] at h ⊢ <;>
            first
              | exact h
              | exact ⟨fun hd => by simp [Fence.wide] at hd, CallsIn.inRound l (callsIn_wide.2 h)⟩
              | exact ⟨fun hd => by simp [Fence.wide] at hd, fun c cs _ => by
                  obtain ⟨v, w', r, s⟩ := h c cs
                  exact ⟨v, w', r, stepsIn_wide.2 s⟩⟩
        | halt x w' => cases x <;> simp only [Oper.upon, Oper.uponIn] at h ⊢ <;> exact h
      · exact absurd h hLO
    · rw [if_neg hw] at h ⊢
      exact ⟨fun f _ => trivial, h⟩
theorem any_in_round {P : Program} {ops : Array Oper} {Q : Exit → Act → World → Prop} {md : Region.Mode} (l n : Nat) (hnd : ∀ o ∈ ops.toList, ∀ c, o.op ≠ .defer c) (hLO : ¬ LetsOut Q) : ∀ (fuel : Nat) (listed : Array Bool) (a : Act) (w : World), wpAny P md ops Q fuel listed a w → wpAnyIn (Fence.wide.inRound l) n P md ops Q fuel listed a w
  | 0, _, _, _, h => h
  | fuel + 1, _, _, _, h => ⟨h.1, fun i hi => wpOpIn_mono (fun a' w' h' => any_in_round l n hnd hLO fuel _ a' w' h') (op_in_round l n hnd hLO i _ _ _ (h.2 i hi))⟩
/-- A region that draws, in a round of a loop over a function. -/
theorem region_in_round {P : Program} {id : Nat} {ops : List Oper} {Q : Exit → Act → World → Prop} {S : World → Prop} {a : Act} {w : World} (l n : Nat) (hm : P.follows .mixedOrders = true) (hnd : ops.all (fun o => match o.op with | .defer _ => false | _ => true) = true) (hLO : ¬ LetsOut Q) (hS : S w.drew)
    (h : S w.drew → wpAnyH P .any ops.toArray Q S ops.length (Array.replicate ops.length false) a w.drew) : (Code.region id ops.toArray true).wpIn (Fence.wide.inRound l) n P Q a w := by
  refine wpIn_region_any hm ?_
  refine any_in_round l n (fun o ho c e => ?_) hLO _ _ _ _ ?_
  · have := List.all_eq_true.1 hnd o ho
    rw [e] at this
    simp at this
  · have := wpAny_of_held _ _ _ _ (h hS)
    simpa using this
end Go.Proofs.Ytdmfecaejdiihaa.F
