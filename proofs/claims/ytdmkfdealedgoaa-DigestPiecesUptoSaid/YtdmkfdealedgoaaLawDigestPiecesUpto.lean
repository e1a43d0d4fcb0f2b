/- The row of the law aumbry/aumbrylaw02.DigestPieces: for every input it returns true and leaves its arguments as they were. -/
import Derived.Test.YtdmkfdealedgoaaRows
import Derived.Test.YtdmkfdealedgoaaDl5
import Derived.Test.YtdmkfdealedgoaaRk
import Derived.Test.YtdmkfdealedgoaaBk
import Derived.Test.YtdmkfdealedgoaaRr
import Derived.WalkKit
import Derived.ProofKit
import Derived.OpenShut
import Derived.Lib.SmallJoins
import Derived.Deep.CondSized
import Derived.ShutString
import Derived.ChangeOld
import Derived.Below
import Derived.SizedLaws
import Derived.Laws.IdiomArrays
import Derived.Test.YtdmkfdealedgoaaWSized
namespace Go.Proofs.Ytdmkfdealedgoaa.digestPieces
open Go.ChangeShapes Go.WideShapes Go.ChangeAt Go.RowKit Go.Proofs.YtdmkfdealedgoaaW.PrintWords Go.Proofs.Ytdmkfdealedgoaa.F
open Go.ChangeMaps (open_string shut_string)
set_option linter.unusedVariables false
theorem own : ownKnob Try.prog.godebug = none := by kernel_rfl
theorem laidOut : laidOutB Try.prog = true := by kernel_rfl
set_option maxRecDepth 100000 in
theorem lifted (os : Os) (started : os.Started) (H : Type) (enc : TypeId × Value → H) (Fi : Stop.Interp) :
    ReturnsInHanded {} Try.checked os 7 .any ((Rows.OpenSpec.upto Rows.digestPiecesSpec).pre6 enc Try.prog Try.f7 Rows.digestPiecesUptoRow.domain false) (((Rows.OpenSpec.upto Rows.digestPiecesSpec).at Fi).post enc Try.prog Try.f7 false true false false) := by
  refine returnsInHanded_of_cond_sized (C := Try.checked) (s := Rows.OpenSpec.upto Rows.digestPiecesSpec) (k := Rows.uptoSmall) rfl own started (by kernel_rfl) Try.func7
    (OpenSpec.witness (enc := enc) (C := Try.checked) (s := Rows.OpenSpec.upto Rows.digestPiecesSpec) (k := Rows.uptoSmall) rfl false ⟨#[], #[.slice none 0 0], []⟩ 8 (by kernel_rfl) (by kernel_rfl) (by kernel_rfl)
      (x := ([.nil], [], [])) (by kernel_rfl) rfl (by kernel_rfl)) ?_
  intro W base args ds gs before hval0 hW hcnd hkb0 hsz0 _
  have hsz : (DataW.weightsEach Try.prog (Try.f7.params.toList ++ (Rows.OpenSpec.upto Rows.digestPiecesSpec).bare.plain.varTypes Try.prog) (ds ++ gs)).all (· ≤ reachBytes) = true := hsz0
  have hval : ∀ (j : Nat) t v, Try.f7.params[j]? = some t → args[j]? = some v → Value.okWide Try.prog W .any base t v := hval0
  have hW' := hW
  obtain ⟨p, q, hA0, hV, rfl, hfz, hnd⟩ := hW
  have hA : DataW.TrodAll enc Try.prog W 0 (fun _ => true) true Try.f7.params.toList args.toList ds p := hA0
  rw [Try.params7] at hA hval hsz
  obtain ⟨v0, vs0, d0, ds0, p0, q0, hargs, rfl, rfl, h0, r0⟩ := trodAll_cons hA
  obtain ⟨rfl, rfl, rfl⟩ := trodAll_nil r0
  obtain rfl : args = #[v0] := by cases args; simp_all
  obtain ⟨rfl, rfl⟩ := trodVars_none hV
  obtain ⟨a0, len0, cap0, rfl⟩ := okWide_slice Try.underlying35 (hval 0 35 v0 rfl rfl)
  have k0 := h0
  have lt0 : ∀ x ∈ p0, x.block < W.heap.size := by obtain ⟨m, hm⟩ := k0; exact DataW.trod_lt m _ _ _ hm
  obtain ⟨xs0, rfl, R0, b0, c0, g0, j0⟩ := RR.ofTrod Try.underlying35 Try.underlying22 Try.underlying5 (by kernel_rfl) (by kernel_rfl) h0
  have hbu := F.bulk_all hkb0
  have u0 : xs0.flatten.length ≤ 1048576 := Nat.le_trans g0 (Nat.le_trans (F.bulk_part (by simp)) hbu)
  have v0 : xs0.length ≤ 1048576 := Nat.le_trans j0 (Nat.le_trans (F.bulk_part (by simp)) hbu)
  clear hbu hkb0
  clear hA0 hval0 hsz0 hsz
  refine (F.DigestPieces_walk a0 cap0 xs0 W R0 b0 u0).mono fun e W' ⟨he, bel⟩ => ?_
  subst he
  exact ⟨_, rfl, _, _, _, [], _, [], hW', trodAll_mk1 (shut_bool Try.underlying4 _), (trodAll_cons_mk (Below.trod laidOut (by kernel_rfl) (of_decide_eq_true (by kernel_rfl)) k0 bel lt0) trodAll_mk0), rfl, bel.frame _, fun h => by cases h⟩
theorem over : Rows.digestPiecesUptoRow.holds Try.pinned (Rows.OpenSpec.upto Rows.digestPiecesSpec) :=
  OpenClaim.holds_of_cond 7 Try.f7 rfl rfl rfl rfl rfl rfl rfl ⟨rfl, rfl, rfl, rfl, rfl⟩ rfl rfl rfl rfl rfl (by kernel_rfl) Try.func7 (by kernel_rfl)
    (of_decide_eq_true (by kernel_rfl)) (by unfold Func.isWrapper; first | (rw [if_pos (by decide +kernel)]; kernel_rfl) | (rw [if_neg (by decide +kernel)]; exact ⟨rfl, rfl⟩))
    (fun os started H enc _ Fi => lifted os started H enc Fi)
theorem proved : Rows.DigestPiecesUptoSaid := over
#print axioms proved
end Go.Proofs.Ytdmkfdealedgoaa.digestPieces
namespace Go.Proofs.Ytdmkfdealedgoaa
/-- The row, under a short name, for the claim. -/
theorem digestPiecesUpto_holds : Rows.DigestPiecesUptoSaid := digestPieces.proved
end Go.Proofs.Ytdmkfdealedgoaa
