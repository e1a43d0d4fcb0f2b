/- What must be whatever is asked: digest. -/
import Derived.Test.YtdmkfdealedgoaaDL
import Derived.Lib.SlBytesConst
set_option linter.unusedVariables false
set_option linter.unusedSimpArgs false
namespace Go.Proofs.Ytdmkfdealedgoaa.F
open Go.RowKit Go.Proofs.YtdmkfdealedgoaaW.PrintWords

theorem RN.cells {k : IntKind} {W W' : World} {A : Option Addr} {xs : List Nat} (h : RN k W A xs) (hm : ∀ a, A = some a → ∀ j, W'.cell? (a.add j) = W.cell? (a.add j)) : RN k W' A xs := by
  have hr := Kd.reads_of_C (enc := encN k) (d := 0) (h1 := fun _ => rfl) h
  refine Kd.C_of_reads (d := 0) ⟨hr.1, hr.2.1, fun hp => ?_⟩
  obtain ⟨ad, e, hc⟩ := hr.2.2 hp
  exact ⟨ad, e, fun j hj => (hm ad e j).trans (hc j hj)⟩
theorem cell_of_row' {w : World} {g : Nat} {cs : Array Value} {t : TypeId} {fr : Nat × Nat} (h : w.heap[g]? = some (.cells cs t fr)) {j : Nat} : w.cell? ((⟨g, 0, none⟩ : Addr).add j) = cs[j]? := by
  have e : (⟨g, 0, none⟩ : Addr).add j = ⟨g, j, none⟩ := by
    unfold Addr.add
    split
    · rename_i hj; cases hj; rfl
    · simp
  rw [e]
  exact cell_of_row _ _ _ _ _ _ h
theorem lit_readsV (k : IntKind) (e : TypeId) (w : World) (xs : List Nat) (hm : xs.length ≤ 9223372036854775807) :
    RN k (w.alloc (.cells (xs.map (encN k)).toArray e)) (some ⟨w.heap.size, 0, none⟩) xs := by
  have h : OwnN k e (w.alloc (.cells (xs.map (encN k)).toArray e)) w.heap.size (.slice (some ⟨w.heap.size, 0, none⟩) xs.length xs.length) xs := own_lit_of (enc := encN k) w w.heap.size e xs (Nat.le_refl _) hm
  obtain ⟨A, c, he, _, hr⟩ := h.reads
  injection he with h1 h2 h3
  rw [h1]
  exact hr
/-- A constant's bytes, marked. -/
theorem const_reads (w : World) (xs : List Nat) (cs : Array Value) (z : Nat × Nat) (hcs : cs = (xs.map (encN .u8)).toArray) (hm : xs.length ≤ 9223372036854775807) :
    RN .u8 (w.alloc (.cells cs 5 z)) (some ⟨w.heap.size, 0, none⟩) xs :=
  (lit_readsV .u8 5 w xs hm).cells (fun a ha j => by
    cases ha
    rw [cell_of_row' (heap_alloc_new w _), cell_of_row' (heap_alloc_new w _), hcs])
theorem abc_at : shaB [97, 98, 99] 0 = 186 ∧ shaB [97, 98, 99] 1 = 120 ∧ shaB [97, 98, 99] 31 = 173 := by
  have h : ∀ i, shaB [97, 98, 99] i = byteS (mixes beginS ([97, 98, 99] ++ padN 3) 1) i := fun i => by
    unfold shaB
    rw [show ([97, 98, 99] : List Nat).length = 3 from rfl, show (3 + (padN 3).length) / 64 = 1 by decide]
  rw [h, h, h, abc_sha]
  decide
theorem crc_nine : crcMore 0 [49, 50, 51, 52, 53, 54, 55, 56, 57] = 3808858755 := by decide +kernel
set_option maxRecDepth 20000 in
theorem live_c (w : World) : Calls Try.prog 9 #[] w fun e w' => e = .returned (.bool true) ∧ Below w.heap.size w w' := by
  have hz := zero32
  have i3 : (Try.prog.info? 24).map (·.size) = some (shaA [97, 98, 99]).size := by unfold shaA; rw [tabK_size]; exact info32
  have o3 : (shaA [97, 98, 99]).all (·.oneCell') = true := tabK_one _ _ _
  have s3 : zeros32.size = (shaA [97, 98, 99]).size := by unfold shaA zeros32; rw [tabK_size, tabK_size]
  have g0 : (shaA [97, 98, 99])[0]? = some (.int .u8 186) := by unfold shaA; rw [tabK_get _ _ _ _ (by decide), abc_at.1]; rfl
  have g1 : (shaA [97, 98, 99])[1]? = some (.int .u8 120) := by unfold shaA; rw [tabK_get _ _ _ _ (by decide), abc_at.2.1]; rfl
  have g31 : (shaA [97, 98, 99])[31]? = some (.int .u8 173) := by unfold shaA; rw [tabK_get _ _ _ _ (by decide), abc_at.2.2]; rfl
  have hsum := fun A c W hr => digSum_c A c [97, 98, 99] W hr (by decide) (by decide)
  have hcrc := fun A c W hr => Crc_c A c [49, 50, 51, 52, 53, 54, 55, 56, 57] W hr (by decide)
  rw [crc_nine] at hcrc
  obtain ⟨R, hR⟩ : ∃ R, shaA [97, 98, 99] = R := ⟨_, rfl⟩
  rw [hR] at i3 o3 s3 g0 g1 g31 hsum
  have HI := Lib.hid i3
  have HO := Lib.hid o3
  have HS := Lib.hid s3
  have G0 := Lib.hid g0
  have G1 := Lib.hid g1
  have G31 := Lib.hid g31
  have HSUM := Lib.hid hsum
  have HCRC := Lib.hid hcrc
  clear i3 o3 s3 g0 g1 g31 hsum hcrc hR
  have hcv := Lib.run_convert_bytes_const w 22 5 #[.int .u8 97, .int .u8 98, .int .u8 99] 3 3 Try.underlying22 Try.underlying5
  have hlit := const_reads w [97, 98, 99] #[.int .u8 97, .int .u8 98, .int .u8 99] (3, 4) rfl (by decide)
  have HLIT := Lib.hid hlit
  clear hlit
  go_enter Try.func9, Try.ntmps9
  go_wp2_with fail
  refine (HSUM.out _ 3 _ HLIT.out).mono ?_
  rintro e w1 ⟨rfl, hb1⟩
  have hbw1 : Below w.heap.size w w1 := ((Below.refl w.heap.size w).alloc (Nat.le_refl _) _).trans (hb1.mono (by simp))
  have hn1 : (w1.alloc (.cells zeros32 24)).heap[w1.heap.size]? = some (.cells zeros32 24 (0, 0)) := heap_alloc_new _ _
  obtain ⟨W2, hW2⟩ : ∃ W2, (w1.alloc (.cells zeros32 24)).setRow w1.heap.size R = W2 := ⟨_, rfl⟩
  have hr2 : W2.heap[w1.heap.size]? = some (.cells R 24 (0, 0)) := by rw [← hW2]; exact setRow_heap _ _ _ _ _ _ hn1
  have hb2 : Below w.heap.size w W2 := by rw [← hW2]; exact below_setRow (hbw1.alloc hbw1.size _) hbw1.size _
  have c0 : W2.cell? ⟨w1.heap.size, 0, none⟩ = some (.int .u8 186) := by rw [cell_of_row _ _ _ _ _ _ hr2]; exact G0.out
  have c1 : W2.cell? ⟨w1.heap.size, 1, none⟩ = some (.int .u8 120) := by rw [cell_of_row _ _ _ _ _ _ hr2]; exact G1.out
  have c31 : W2.cell? ⟨w1.heap.size, 31, none⟩ = some (.int .u8 173) := by rw [cell_of_row _ _ _ _ _ _ hr2]; exact G31.out
  have HN1 := Lib.hid hn1
  have HW2 := Lib.hid hW2
  have HB2 := Lib.hid hb2
  have hcv2 := Lib.run_convert_bytes_const W2 22 5 #[.int .u8 49, .int .u8 50, .int .u8 51, .int .u8 52, .int .u8 53, .int .u8 54, .int .u8 55, .int .u8 56, .int .u8 57] 9 9 Try.underlying22 Try.underlying5
  have hlit2 := const_reads W2 [49, 50, 51, 52, 53, 54, 55, 56, 57] #[.int .u8 49, .int .u8 50, .int .u8 51, .int .u8 52, .int .u8 53, .int .u8 54, .int .u8 55, .int .u8 56, .int .u8 57] (9, 10) rfl (by decide)
  have HLIT2 := Lib.hid hlit2
  clear hn1 hW2 hr2 hb2 hb1 hbw1 hlit2 hcv
  go_wp2_with (first | (rw [HW2.out]) | (refine wpList_store_row rfl 24 (.tmp 1) (.tmp 4) rfl w1.heap.size rfl R zeros32 rfl 24 HN1.out HI.out HS.out HO.out ?_))
  refine (HCRC.out _ 9 _ HLIT2.out).mono ?_
  rintro e w3 ⟨rfl, rfl⟩
  go_wp2_with fail
  go_ret
  exact ⟨rfl, HB2.out.alloc HB2.out.size _⟩
end Go.Proofs.Ytdmkfdealedgoaa.F
