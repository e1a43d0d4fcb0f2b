/- A slot's bytes, if they are its chunk's: walked. -/
import Derived.Test.YtejmklfhcealnaaKr2
set_option linter.unusedVariables false
set_option linter.unusedSimpArgs false
namespace Go.Proofs.Ytejmklfhcealnaa.F
open Go.RowKit Go.Proofs.YtejmklfhcealnaaW.PrintWords

set_option maxRecDepth 20000 in
set_option maxHeartbeats 4000000 in
theorem PackChunks_walk (A : Option Addr) (c : Nat) (bs q : List Nat) (a n : Int) (w : World) (hr : RN .u8 w A bs) (hb : ∀ x ∈ bs, x < 256) (hcap : bs.length ≤ c) (hq : q.length = 32) (hq2 : ∀ x ∈ q, x < 256) (ha : -9223372036854775808 ≤ a ∧ a ≤ 9223372036854775807) (hn : -9223372036854775808 ≤ n ∧ n ≤ 9223372036854775807) :
    Calls Try.prog 4 #[.slice A bs.length c, .agg (slV q a n)] w fun e w' => e = .returned (.bool true) ∧ Below w.heap.size w w' := by
  have hbx : Below w.heap.size w (w.alloc (.cells (slV q a n) 38)) := (Below.refl _ _).alloc (Nat.le_refl _) _
  have hgx : (w.alloc (.cells (slV q a n) 38)).heap[w.heap.size]? = some (.cells (slV q a n) 38 (0, 0)) := heap_alloc_new _ _
  have hsz : (w.alloc (.cells (slV q a n) 38)).heap.size = w.heap.size + 1 := by simp
  have h1 := fun W hR => ChunkF_c A c bs q a n W hR hb hcap hq hq2 ha hn
  have h2 := fun W hR => ChunkF_r A c bs q a n W hR hb hcap hq hq2 ha hn
  have hr1 := hr.below hbx
  have hinf : (Try.prog.info? 38).map (·.size) = some (slV q a n).size := by rw [slV_size q a n hq]; exact infoS
  obtain ⟨C, hC⟩ : ∃ C, slV q a n = C := ⟨_, rfl⟩
  rw [hC] at hbx hgx hsz h1 h2 hr1 hinf ⊢
  obtain ⟨⟨E, P⟩, hEP⟩ : ∃ r, chunkA bs q a n = r := ⟨_, rfl⟩
  rw [hEP] at h1 h2
  have H1 := Lib.hid h1
  have H2 := Lib.hid h2
  have HG := Lib.hid hgx
  have HB := Lib.hid hbx
  have HR1 := Lib.hid hr1
  have HI := Lib.hid hinf
  clear h1 h2 hgx hbx hr1 hinf hr hC hEP hq hq2 hb
  go_enter Try.func4, Try.ntmps4
  go_wp2_with (refine wpList_load_row rfl 38 (.tmp 3) rfl w.heap.size rfl 38 C (0, 0) _ HG.out Try.underlying38 (by rfl) HI.out ?_)
  refine (H1.out _ HR1.out).mono ?_
  rintro e w2 ⟨A2, c2, rfl, hc2, hr2, hb2⟩
  dsimp only at hc2 hr2 ⊢
  have hg2 := (hb2.block w.heap.size (by omega)).trans HG.out
  have HG2 := Lib.hid hg2
  have HR2 := Lib.hid hr2
  have HB2 := Lib.hid (HB.out.trans (hb2.mono (by omega)))
  have HRA := Lib.hid (HR1.out.below hb2)
  have hs2 := hb2.size
  clear hg2 hr2 hb2
  go_wp2_with (refine wpList_load_row rfl 38 (.tmp 3) rfl w.heap.size rfl 38 C (0, 0) _ HG2.out Try.underlying38 (by rfl) HI.out ?_)
  refine (H2.out _ HRA.out).mono ?_
  rintro e w3 ⟨A3, c3, rfl, hc3, hr3, hb3⟩
  dsimp only at hc3 hr3 ⊢
  have HR23 := Lib.hid (HR2.out.below hb3)
  have HR3 := Lib.hid hr3
  have HB3 := Lib.hid (HB2.out.trans (hb3.mono (by omega)))
  have hs3 := hb3.size
  clear hr3 hb3
  go_wp2_with fail
  refine (live_c w3).mono ?_
  rintro e w4 ⟨rfl, hb4⟩
  have s2 := RN.string (P := Try.prog) (src := 27) (dst := 9) (e := 5) (c := c2) Try.underlying27 Try.underlying5 Try.underlying9 (HR23.out.below hb4)
  have s3 := RN.string (P := Try.prog) (src := 27) (dst := 9) (e := 5) (c := c3) Try.underlying27 Try.underlying5 Try.underlying9 (HR3.out.below hb4)
  obtain ⟨S, hS⟩ : ∃ S, strN P = S := ⟨_, rfl⟩
  rw [hS] at s2 s3
  have HB4 := Lib.hid (HB3.out.trans (hb4.mono (by omega)))
  have b2 : (E == E) = true := by simp
  clear hS hb4
  go_wp2_with fail
  go_ret
  exact ⟨rfl, HB4.out⟩
end Go.Proofs.Ytejmklfhcealnaa.F
