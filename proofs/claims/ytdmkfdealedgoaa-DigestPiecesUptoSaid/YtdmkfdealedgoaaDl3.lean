/- A text's sum is the document's, walked. -/
import Derived.Test.YtdmkfdealedgoaaDv
import Derived.Test.YtdmkfdealedgoaaDy
import Derived.Stop.BytesEq
set_option linter.unusedVariables false
set_option linter.unusedSimpArgs false
namespace Go.Proofs.Ytdmkfdealedgoaa.F
open Go.RowKit Go.Proofs.YtdmkfdealedgoaaW.PrintWords

theorem shaB_lt (p : List Nat) (i : Nat) : shaB p i < 256 := Nat.mod_lt _ (by omega)
theorem tab_bytes (f : Nat → Nat) (hf : ∀ i, f i < 256) : tabK .u8 32 f = (((List.range 32).map fun i => UInt8.ofNat (f i)).map Extern.Stop.cell).toArray := by
  unfold tabK
  congr 1
  rw [List.map_map]
  apply List.map_congr_left
  intro i _
  show encN .u8 (f i) = Extern.Stop.cell (UInt8.ofNat (f i))
  unfold encN Extern.Stop.cell
  rw [show (UInt8.ofNat (f i)).toNat = f i by rw [UInt8.toNat_ofNat']; exact Nat.mod_eq_of_lt (hf i)]
  rfl
theorem eql_sum (w : World) (f : Nat → Nat) (hf : ∀ i, f i < 256) : Sem.run Try.prog (binOp BinOp.eql 24 (.agg (tabK .u8 32 f)) (.agg (tabK .u8 32 f))) w = Result.ok (.bool true) w := by
  rw [tab_bytes f hf, run_eql_bytes w 24 5 32 Try.underlying24 Try.underlying5 (fun _ => by kernel_rfl) _ _ (by simp) (by simp)]
  simp
theorem DigestSums_walk (A : Option Addr) (c : Nat) (p : List Nat) (w : World) (hr : RN .u8 w A p) (hp : ∀ x ∈ p, x < 256) (hl : p.length ≤ 140737488351232) :
    Calls Try.prog 3 #[.slice A p.length c] w fun e w' => e = .returned (.bool true) ∧ Below w.heap.size w w' := by
  have h1 := fun W hr => digSum_c A c p W hr hp (by omega)
  have h2 := fun W hr => refSum_c A c p W hr hp hl
  have heq := fun w => eql_sum w (shaB p) (shaB_lt p)
  obtain ⟨R, hR⟩ : ∃ R, shaA p = R := ⟨_, rfl⟩
  rw [show tabK .u8 32 (shaB p) = shaA p from rfl, hR] at heq
  rw [hR] at h1 h2
  have H1 := Lib.hid h1
  have H2 := Lib.hid h2
  clear h1 h2 hR
  go_enter Try.func3, Try.ntmps3
  go_wp2_with fail
  refine (live_c _).mono ?_
  rintro e w1 ⟨rfl, hb1⟩
  have HB1 := Lib.hid hb1
  have HR1 := Lib.hid (hr.below hb1)
  clear hb1 hr
  go_wp2_with fail
  refine (H1.out _ HR1.out).mono ?_
  rintro e w2 ⟨rfl, hb2⟩
  have HB2 := Lib.hid (HB1.out.trans (hb2.mono HB1.out.size))
  have HR2 := Lib.hid (HR1.out.below hb2)
  clear hb2
  go_wp2_with fail
  refine (H2.out _ HR2.out).mono ?_
  rintro e w3 ⟨rfl, hb3⟩
  have HB3 := Lib.hid (HB2.out.trans (hb3.mono HB2.out.size))
  clear hb3
  go_wp2_with fail
  go_ret
  exact ⟨rfl, HB3.out⟩
end Go.Proofs.Ytdmkfdealedgoaa.F
