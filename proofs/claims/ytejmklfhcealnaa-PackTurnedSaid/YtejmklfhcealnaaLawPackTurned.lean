/- The row of the law aumbry/aumbrylaw11.PackTurned: for every input it returns true and leaves its arguments as they were. -/
import Derived.Test.YtejmklfhcealnaaRows
import Derived.Test.YtejmklfhcealnaaU4
import Derived.Test.YtejmklfhcealnaaRk
import Derived.Test.YtejmklfhcealnaaRr
import Derived.Test.YtejmklfhcealnaaRz
import Derived.WalkKit
import Derived.ProofKit
import Derived.OpenShut
import Derived.Lib.SmallJoins
import Derived.Deep.CondSized
import Derived.ShutString
import Derived.ChangeOld
import Derived.Below
import Derived.SizedLaws
import Derived.Laws.IdiomArrays
import Derived.Test.YtejmklfhcealnaaWSized
namespace Go.Proofs.Ytejmklfhcealnaa.packTurned
open Go.ChangeShapes Go.WideShapes Go.ChangeAt Go.RowKit Go.Proofs.YtejmklfhcealnaaW.PrintWords Go.Proofs.Ytejmklfhcealnaa.F
open Go.ChangeMaps (open_string shut_string)
set_option linter.unusedVariables false
theorem own : ownKnob Try.prog.godebug = none := by kernel_rfl
theorem laidOut : laidOutB Try.prog = true := by kernel_rfl
set_option maxRecDepth 100000 in
theorem lifted (os : Os) (started : os.Started) (H : Type) (enc : TypeId × Value → H) :
    ReturnsInHanded {} Try.checked os 8 .any (Rows.packTurnedSpec.pre6 enc Try.prog Try.f8 Rows.packTurnedRow.domain false) (Rows.packTurnedSpec.post enc Try.prog Try.f8 false true false false) := by
  refine returnsInHanded_of_change_sized (C := Try.checked) own started (by kernel_rfl) Try.func8
    (ChangeSpec.witness6 (enc := enc) (C := Try.checked) false ⟨#[], #[.slice none 0 0, .bool false, .int .u16 0, .agg #[.int .u8 0, .int .u8 0, .int .u8 0, .int .u8 0]], []⟩ 8 (by kernel_rfl) (by kernel_rfl) (by kernel_rfl) (by kernel_rfl)) ?_
  intro W base args ds gs before hval0 hW hcnd hsz0 _
  have hsz : (DataW.weightsEach Try.prog (Try.f8.params.toList ++ Rows.packTurnedSpec.plain.varTypes Try.prog) (ds ++ gs)).all (· ≤ reachBytes) = true := hsz0
  have hval : ∀ (j : Nat) t v, Try.f8.params[j]? = some t → args[j]? = some v → Value.okWide Try.prog W .any base t v := hval0
  have hW' := hW
  obtain ⟨p, q, hA0, hV, rfl, hfz, hnd⟩ := hW
  have hA : DataW.TrodAll enc Try.prog W 0 (fun _ => true) true Try.f8.params.toList args.toList ds p := hA0
  rw [Try.params8] at hA hval hsz
  obtain ⟨v0, vs0, d0, ds0, p0, q0, hargs, rfl, rfl, h0, r0⟩ := trodAll_cons hA
  obtain ⟨v1, vs1, d1, ds1, p1, q1, rfl, rfl, rfl, h1, r1⟩ := trodAll_cons r0
  obtain ⟨v2, vs2, d2, ds2, p2, q2, rfl, rfl, rfl, h2, r2⟩ := trodAll_cons r1
  obtain ⟨v3, vs3, d3, ds3, p3, q3, rfl, rfl, rfl, h3, r3⟩ := trodAll_cons r2
  obtain ⟨rfl, rfl, rfl⟩ := trodAll_nil r3
  obtain rfl : args = #[v0, v1, v2, v3] := by cases args; simp_all
  obtain ⟨rfl, rfl⟩ := trodVars_none hV
  obtain ⟨a0, len0, cap0, rfl⟩ := okWide_slice Try.underlying22 (hval 0 22 v0 rfl rfl)
  have k0 := h0
  have lt0 : ∀ x ∈ p0, x.block < W.heap.size := by obtain ⟨m, hm⟩ := k0; exact DataW.trod_lt m _ _ _ hm
  obtain ⟨xs0, rfl, R0, b0, c0, g0, j0, s0⟩ := RR.ofTrodZ Try.underlying22 Try.underlying27 Try.underlying5 (by kernel_rfl) (by kernel_rfl) h0 (fun n hn => of_decide_eq_true (List.all_eq_true.1 hsz n (DataW.weights_mem_each (j := 0) (t := 22) rfl rfl n hn))) (by kernel_rfl)
  obtain ⟨a1, rfl, rfl, rfl⟩ := open_bool Try.underlying4 (hval 1 4 v1 rfl rfl) h1
  obtain ⟨a2, rfl, rfl, rfl, w2⟩ := open_int Try.underlying58 (hval 2 58 v2 rfl rfl) h2
  have k3 := h3
  have lt3 : ∀ x ∈ p3, x.block < W.heap.size := by obtain ⟨m, hm⟩ := k3; exact DataW.trod_lt m _ _ _ hm
  obtain ⟨cs3, rfl, hz3⟩ : ∃ cs, v3 = .agg cs ∧ cs.size = Try.prog.cellsOf 59 := by
    have h := (hval 3 59 v3 rfl rfl)
    simp only [Value.okWide, Try.underlying59] at h
    obtain ⟨cs, h1, h2, _⟩ := h
    exact ⟨cs, h1, h2⟩
  rw [show Try.prog.cellsOf 59 = 4 by kernel_rfl] at hz3
  obtain ⟨ls3⟩ := cs3
  obtain ⟨c30, c31, c32, c33, rfl⟩ := F.list4 (l := ls3) (by simpa using hz3)
  obtain ⟨fu3, hf3⟩ := h3
  obtain ⟨y30, y31, y32, y33, n3, hx3, hy30, hy31, hy32, hy33⟩ := Go.ChangeShapes.trod_array4 Try.underlying59 (by kernel_rfl) hf3
  obtain ⟨a30, e30, rfl, w30⟩ := DataW.trod_int Try.underlying5 hy30
  obtain ⟨a31, e31, rfl, w31⟩ := DataW.trod_int Try.underlying5 hy31
  obtain ⟨a32, e32, rfl, w32⟩ := DataW.trod_int Try.underlying5 hy32
  obtain ⟨a33, e33, rfl, w33⟩ := DataW.trod_int Try.underlying5 hy33
  simp at e30 e31 e32 e33
  subst e30 e31 e32 e33
  simp only [Prod.mk.injEq] at hx3
  obtain ⟨rfl, rfl⟩ := hx3
  obtain ⟨b30, rfl, l30⟩ := nat_u8 w30
  obtain ⟨b31, rfl, l31⟩ := nat_u8 w31
  obtain ⟨b32, rfl, l32⟩ := nat_u8 w32
  obtain ⟨b33, rfl, l33⟩ := nat_u8 w33
  clear hA0 hval0 hsz0 hsz
  obtain ⟨m2, rfl, l2⟩ := nat_u16 w2
  refine (F.PackTurned_walk a0 cap0 xs0 a1 m2 b30 b31 b32 b33 W R0 b0 s0 l2 l30 l31 l32 l33).mono fun e W' ⟨he, bel⟩ => ?_
  subst he
  exact ⟨_, rfl, _, _, _, [], _, [], hW', trodAll_mk1 (shut_bool Try.underlying4 _), (trodAll_cons_mk (Below.trod laidOut (by kernel_rfl) (of_decide_eq_true (by kernel_rfl)) k0 bel lt0) (trodAll_cons_mk (shut_bool Try.underlying4 _) (trodAll_cons_mk (shut_int Try.underlying58 w2) (trodAll_cons_mk (Below.trod laidOut (by kernel_rfl) (of_decide_eq_true (by kernel_rfl)) k3 bel lt3) trodAll_mk0)))), rfl, bel.frame _, fun h => by cases h⟩
theorem over : Rows.packTurnedRow.holds Try.pinned (OpenSpec.ofChange Rows.packTurnedSpec) :=
  OpenClaim.holds_of_wide 8 Try.f8 rfl rfl rfl rfl rfl rfl rfl ⟨rfl, rfl, rfl, rfl, rfl⟩ rfl rfl rfl rfl rfl (by kernel_rfl) Try.func8 (by kernel_rfl)
    (of_decide_eq_true (by kernel_rfl)) (by unfold Func.isWrapper; first | (rw [if_pos (by decide +kernel)]; kernel_rfl) | (rw [if_neg (by decide +kernel)]; exact ⟨rfl, rfl⟩))
    (fun os started H enc _ => lifted os started H enc)
theorem proved : Rows.PackTurnedSaid := over
#print axioms proved
end Go.Proofs.Ytejmklfhcealnaa.packTurned
namespace Go.Proofs.Ytejmklfhcealnaa
/-- The row, under a short name, for the claim. -/
theorem packTurned_holds : Rows.PackTurnedSaid := packTurned.proved
end Go.Proofs.Ytejmklfhcealnaa
