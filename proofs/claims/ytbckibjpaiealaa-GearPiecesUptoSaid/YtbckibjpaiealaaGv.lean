/- What must be whatever is asked; the chunks by the document. -/
import Derived.Test.YtbckibjpaiealaaGy
import Derived.Lib.SlBytesConst
set_option linter.unusedVariables false
set_option linter.unusedSimpArgs false
namespace Go.Proofs.Ytbckibjpaiealaa.F
open Go.RowKit Go.Proofs.YtbckibjpaiealaaW.PrintWords

theorem live_chunks : chunks 2 1 9 (gtab 0) [97, 98, 99, 100, 101] = [[97, 98], [99, 100], [101]] := by kernel_rfl
theorem live_tab : ∀ W : World, Sem.run Try.prog (Instr.index 27 (.agg (tabA (gtab 0))) (.int .i64 0)) W = Result.ok (.int .u32 3793791033) W := fun _ => by kernel_rfl

theorem RN.cells {k : IntKind} {W W' : World} {A : Option Addr} {xs : List Nat} (h : RN k W A xs) (hm : ∀ a, A = some a → ∀ j, W'.cell? (a.add j) = W.cell? (a.add j)) : RN k W' A xs := by
  have hr := Kd.reads_of_C (enc := encN k) (d := 0) (h1 := fun _ => rfl) h
  refine Kd.C_of_reads (d := 0) ⟨hr.1, hr.2.1, fun hp => ?_⟩
  obtain ⟨ad, e, hc⟩ := hr.2.2 hp
  exact ⟨ad, e, fun j hj => (hm ad e j).trans (hc j hj)⟩
theorem cell_of_row' {w : World} {g : Nat} {cs : Array Value} {t : TypeId} {fr : Nat × Nat} (h : w.heap[g]? = some (.cells cs t fr)) {j : Nat} : w.cell? ((⟨g, 0, none⟩ : Addr).add j) = cs[j]? := by
  have e : (⟨g, 0, none⟩ : Addr).add j = ⟨g, j, none⟩ := by
    unfold Addr.add
    split
    · rename_i hj; cases hj; rfl
    · simp
  rw [e]
  exact cell_of_row _ _ _ _ _ _ h
theorem str_ab : strN [97, 98] = (⟨#[97, 98]⟩ : ByteArray) := by kernel_rfl
theorem str_e : strN [101] = (⟨#[101]⟩ : ByteArray) := by kernel_rfl
theorem lit_reads (k : IntKind) (e : TypeId) (w : World) (xs : List Nat) (hm : xs.length ≤ 9223372036854775807) :
    RN k (w.alloc (.cells (xs.map (encN k)).toArray e)) (some ⟨w.heap.size, 0, none⟩) xs := by
  have h : OwnN k e (w.alloc (.cells (xs.map (encN k)).toArray e)) w.heap.size (.slice (some ⟨w.heap.size, 0, none⟩) xs.length xs.length) xs := own_lit_of (enc := encN k) w w.heap.size e xs (Nat.le_refl _) hm
  obtain ⟨A, c, he, _, hr⟩ := h.reads
  injection he with h1 h2 h3
  rw [h1]
  exact hr

set_option maxRecDepth 20000 in
theorem live_c (w : World) : Calls Try.prog 9 #[] w fun e w' => e = .returned (.bool true) ∧ Below w.heap.size w w' := by
  have ht0 := live_tab
  have htl := gtab_len 0
  have htc := Table_c 0 (by decide)
  have hall := fun A c W hr hp hl => All_ok 2 1 9 (gtab 0) A c [97, 98, 99, 100, 101] W htl (by decide) hr hp hl
  rw [live_chunks] at hall
  obtain ⟨tt, htt⟩ : ∃ tt, tabA (gtab 0) = tt := ⟨_, rfl⟩
  rw [htt] at ht0 hall htc
  have HT := Lib.hid htc
  have HAL := Lib.hid hall
  clear htc hall htl htt
  go_enter Try.func9, Try.ntmps9
  go_wp2_with fail
  refine (HT.out _).mono ?_
  rintro e w1 ⟨rfl, hb1⟩
  have hcv := Lib.run_convert_bytes_const w1 32 5 #[.int .u8 97, .int .u8 98, .int .u8 99, .int .u8 100, .int .u8 101] 5 5 Try.underlying32 Try.underlying5
  have hlit : RN .u8 (w1.alloc (.cells #[.int .u8 97, .int .u8 98, .int .u8 99, .int .u8 100, .int .u8 101] 5 (5, 6))) (some ⟨w1.heap.size, 0, none⟩) [97, 98, 99, 100, 101] :=
    (lit_reads .u8 5 w1 [97, 98, 99, 100, 101] (by decide)).cells (fun a ha j => by
      cases ha
      rw [cell_of_row' (heap_alloc_new w1 _), cell_of_row' (heap_alloc_new w1 _)]
      rfl)
  have HLIT := Lib.hid hlit
  clear hlit
  go_wp2_with fail
  refine (HAL.out _ 5 _ HLIT.out (by decide) (by decide)).mono ?_
  rintro e w2 ⟨v, okc, rfl, hs2, _, hb2⟩
  obtain ⟨A, c, rfl, hc, hrr⟩ := hs2.reads
  obtain ⟨ad, A0, c0, e, k0, hc0, hr0⟩ := hrr.at 0 (by decide)
  subst e
  obtain ⟨bd, A2, c2, e, k2, hc2, hr2⟩ := hrr.at 2 (by decide)
  obtain rfl : ad = bd := Option.some.inj e
  clear e
  replace k0 : w2.cell? ad = some (.slice A0 2 c0) := k0
  have s0 := RN.string (c := c0) Try.underlying32 Try.underlying5 Try.underlying9 hr0
  have s2 := RN.string (c := c2) Try.underlying32 Try.underlying5 Try.underlying9 hr2
  replace s0 : Sem.run Try.prog (convert 32 9 (.slice A0 2 c0)) w2 = .ok (.string (strN [97, 98])) w2 := s0
  replace s2 : Sem.run Try.prog (convert 32 9 (.slice A2 1 c2)) w2 = .ok (.string (strN [101])) w2 := s2
  replace k2 : w2.cell? ⟨ad.block, ad.off + 2, none⟩ = some (.slice A2 1 c2) := k2
  rw [str_ab] at s0
  rw [str_e] at s2
  have hB2 : Below w.heap.size w w2 := hb1.trans (((Below.refl w1.heap.size w1).alloc (Nat.le_refl _) _ |>.trans (hb2.mono (by simp))).mono hb1.size)
  have HB2 := Lib.hid hB2
  clear hb1 hb2 hs2 hrr hr0 hr2 hB2
  go_wp2_with fail
  refine (HT.out _).mono ?_
  rintro e w3 ⟨rfl, hb3⟩
  have hB3 := Lib.hid (HB2.out.trans (hb3.mono HB2.out.size))
  clear hb3
  go_wp2_with fail

  go_ret
  exact ⟨rfl, hB3.out⟩
end Go.Proofs.Ytbckibjpaiealaa.F
