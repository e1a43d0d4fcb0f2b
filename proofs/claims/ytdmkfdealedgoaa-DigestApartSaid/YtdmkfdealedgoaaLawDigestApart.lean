/- The row of the law aumbry/aumbrylaw02.DigestApart: for every input it returns true and leaves its arguments as they were. -/
import Derived.Test.YtdmkfdealedgoaaRows
import Derived.Test.YtdmkfdealedgoaaDl2
import Derived.Test.YtdmkfdealedgoaaRk
import Derived.WalkKit
import Derived.ProofKit
import Derived.OpenShut
import Derived.Lib.SmallJoins
import Derived.Deep.CondSized
import Derived.ShutString
import Derived.ChangeOld
import Derived.Below
import Derived.SizedLaws
import Derived.Laws.IdiomArrays
import Derived.Test.YtdmkfdealedgoaaWSized
namespace Go.Proofs.Ytdmkfdealedgoaa.digestApart
open Go.ChangeShapes Go.WideShapes Go.ChangeAt Go.RowKit Go.Proofs.YtdmkfdealedgoaaW.PrintWords Go.Proofs.Ytdmkfdealedgoaa.F
open Go.ChangeMaps (open_string shut_string)
set_option linter.unusedVariables false
theorem own : ownKnob Try.prog.godebug = none := by kernel_rfl
theorem laidOut : laidOutB Try.prog = true := by kernel_rfl
set_option maxRecDepth 100000 in
theorem lifted (os : Os) (started : os.Started) (H : Type) (enc : TypeId × Value → H) :
    ReturnsInHanded {} Try.checked os 6 .any (Rows.digestApartSpec.pre6 enc Try.prog Try.f6 Rows.digestApartRow.domain false) (Rows.digestApartSpec.post enc Try.prog Try.f6 false true false false) := by
  refine returnsInHanded_of_change_sized (C := Try.checked) own started (by kernel_rfl) Try.func6
    (ChangeSpec.witness6 (enc := enc) (C := Try.checked) false ⟨#[], #[.slice none 0 0, .int .u16 0, .agg #[.int .u8 0, .int .u8 0, .int .u8 0, .int .u8 0]], []⟩ 8 (by kernel_rfl) (by kernel_rfl) (by kernel_rfl) (by kernel_rfl)) ?_
  intro W base args ds gs before hval0 hW hcnd hsz0 _
  have hsz : (DataW.weightsEach Try.prog (Try.f6.params.toList ++ Rows.digestApartSpec.plain.varTypes Try.prog) (ds ++ gs)).all (· ≤ reachBytes) = true := hsz0
  have hval : ∀ (j : Nat) t v, Try.f6.params[j]? = some t → args[j]? = some v → Value.okWide Try.prog W .any base t v := hval0
  have hW' := hW
  obtain ⟨p, q, hA0, hV, rfl, hfz, hnd⟩ := hW
  have hA : DataW.TrodAll enc Try.prog W 0 (fun _ => true) true Try.f6.params.toList args.toList ds p := hA0
  rw [Try.params6] at hA hval hsz
  obtain ⟨v0, vs0, d0, ds0, p0, q0, hargs, rfl, rfl, h0, r0⟩ := trodAll_cons hA
  obtain ⟨v1, vs1, d1, ds1, p1, q1, rfl, rfl, rfl, h1, r1⟩ := trodAll_cons r0
  obtain ⟨v2, vs2, d2, ds2, p2, q2, rfl, rfl, rfl, h2, r2⟩ := trodAll_cons r1
  obtain ⟨rfl, rfl, rfl⟩ := trodAll_nil r2
  obtain rfl : args = #[v0, v1, v2] := by cases args; simp_all
  obtain ⟨rfl, rfl⟩ := trodVars_none hV
  obtain ⟨a0, len0, cap0, rfl⟩ := okWide_slice Try.underlying22 (hval 0 22 v0 rfl rfl)
  have k0 := h0
  have lt0 : ∀ x ∈ p0, x.block < W.heap.size := by obtain ⟨m, hm⟩ := k0; exact DataW.trod_lt m _ _ _ hm
  obtain ⟨z0, w0⟩ : ∃ zs, IsRow .u8 W a0 len0 cap0 zs := by
    obtain ⟨fuel, hf⟩ := h0
    rcases open_ints Try.underlying22 Try.underlying5 (by kernel_rfl) hf with ⟨hcs, _⟩ | ⟨x, l, c, zs, hcs, _, hl, hm, hz, _, hcell, hwz⟩
    · simp [Value.cells] at hcs
      obtain ⟨rfl, rfl, rfl⟩ := hcs
      exact ⟨[], .inl ⟨rfl, rfl, rfl, rfl⟩⟩
    · simp [Value.cells] at hcs
      obtain ⟨rfl, rfl, rfl⟩ := hcs
      exact ⟨zs, .inr ⟨_, rfl, hl, hm, by simpa using hz, hcell, hwz⟩⟩
  have y0 : len0 * 1 ≤ 140737488351232 := sized_ints hsz (j := 0) (t := 22) rfl rfl Try.underlying22 Try.underlying5 (by kernel_rfl) (by kernel_rfl) h0
  obtain ⟨a1, rfl, rfl, rfl, w1⟩ := open_int Try.underlying32 (hval 1 32 v1 rfl rfl) h1
  have k2 := h2
  have lt2 : ∀ x ∈ p2, x.block < W.heap.size := by obtain ⟨m, hm⟩ := k2; exact DataW.trod_lt m _ _ _ hm
  obtain ⟨cs2, rfl, hz2⟩ : ∃ cs, v2 = .agg cs ∧ cs.size = Try.prog.cellsOf 33 := by
    have h := (hval 2 33 v2 rfl rfl)
    simp only [Value.okWide, Try.underlying33] at h
    obtain ⟨cs, h1, h2, _⟩ := h
    exact ⟨cs, h1, h2⟩
  rw [show Try.prog.cellsOf 33 = 4 by kernel_rfl] at hz2
  obtain ⟨ls2⟩ := cs2
  obtain ⟨c20, c21, c22, c23, rfl⟩ := F.list4 (l := ls2) (by simpa using hz2)
  obtain ⟨fu2, hf2⟩ := h2
  obtain ⟨y20, y21, y22, y23, n2, hx2, hy20, hy21, hy22, hy23⟩ := Go.ChangeShapes.trod_array4 Try.underlying33 (by kernel_rfl) hf2
  obtain ⟨a20, e20, rfl, w20⟩ := DataW.trod_int Try.underlying5 hy20
  obtain ⟨a21, e21, rfl, w21⟩ := DataW.trod_int Try.underlying5 hy21
  obtain ⟨a22, e22, rfl, w22⟩ := DataW.trod_int Try.underlying5 hy22
  obtain ⟨a23, e23, rfl, w23⟩ := DataW.trod_int Try.underlying5 hy23
  simp at e20 e21 e22 e23
  subst e20 e21 e22 e23
  simp only [Prod.mk.injEq] at hx2
  obtain ⟨rfl, rfl⟩ := hx2
  obtain ⟨b20, rfl, l20⟩ := nat_u8 w20
  obtain ⟨b21, rfl, l21⟩ := nat_u8 w21
  obtain ⟨b22, rfl, l22⟩ := nat_u8 w22
  obtain ⟨b23, rfl, l23⟩ := nat_u8 w23
  clear hA0 hval0 hsz0 hsz
  obtain ⟨xs0, rfl, R0, b0, c0⟩ := RN.ofRow_u8 w0
  obtain ⟨m1, rfl, l1⟩ := nat_u16 w1
  refine (F.DigestApart_walk a0 cap0 xs0 m1 b20 b21 b22 b23 W R0 b0 (by have := y0; omega) l1 l20 l21 l22 l23).mono fun e W' ⟨he, bel⟩ => ?_
  subst he
  exact ⟨_, rfl, _, _, _, [], _, [], hW', trodAll_mk1 (shut_bool Try.underlying4 _), (trodAll_cons_mk (Below.trod laidOut (by kernel_rfl) (of_decide_eq_true (by kernel_rfl)) k0 bel lt0) (trodAll_cons_mk (shut_int Try.underlying32 w1) (trodAll_cons_mk (Below.trod laidOut (by kernel_rfl) (of_decide_eq_true (by kernel_rfl)) k2 bel lt2) trodAll_mk0))), rfl, bel.frame _, fun h => by cases h⟩
theorem over : Rows.digestApartRow.holds Try.pinned (OpenSpec.ofChange Rows.digestApartSpec) :=
  OpenClaim.holds_of_wide 6 Try.f6 rfl rfl rfl rfl rfl rfl rfl ⟨rfl, rfl, rfl, rfl, rfl⟩ rfl rfl rfl rfl rfl (by kernel_rfl) Try.func6 (by kernel_rfl)
    (of_decide_eq_true (by kernel_rfl)) (by unfold Func.isWrapper; first | (rw [if_pos (by decide +kernel)]; kernel_rfl) | (rw [if_neg (by decide +kernel)]; exact ⟨rfl, rfl⟩))
    (fun os started H enc _ => lifted os started H enc)
theorem proved : Rows.DigestApartSaid := over
#print axioms proved
end Go.Proofs.Ytdmkfdealedgoaa.digestApart
namespace Go.Proofs.Ytdmkfdealedgoaa
/-- The row, under a short name, for the claim. -/
theorem digestApart_holds : Rows.DigestApartSaid := digestApart.proved
end Go.Proofs.Ytdmkfdealedgoaa
