/- All, walked. -/
import Derived.Test.YtbckibjpaiealaaGx
set_option linter.unusedVariables false
set_option linter.unusedSimpArgs false
namespace Go.Proofs.Ytbckibjpaiealaa.F
open Go.RowKit Go.Proofs.YtbckibjpaiealaaW.PrintWords

set_option maxRecDepth 20000 in
theorem All_bad (mn av mx : Int) (tb : List Nat) (A : Option Addr) (c n : Nat) (W : World) (ht : tb.length = 256) (h : cutOk mn av mx = false) :
    Calls Try.prog 15 #[.agg #[.int .i64 mn, .int .i64 av, .int .i64 mx], .agg (tabA tb), .slice A n c] W fun e w' => e = .returned (.tuple #[.slice none 0 0, .int .i64 2]) ∧ Below W.heap.size W w' := by
  have hnew := fun W => New_bad mn av mx tb W ht h
  have hit : (Try.prog.info? 27).map (·.size) = some (tabA tb).size := by rw [tabA_size, ht]; exact infoT
  obtain ⟨tt, htt⟩ : ∃ tt, tabA tb = tt := ⟨_, rfl⟩
  rw [htt] at hit hnew ⊢
  clear htt
  have HI := Lib.hid hit
  have HN := Lib.hid hnew
  clear hit hnew
  obtain ⟨W2, hW2⟩ : ∃ W2, (W.alloc (.cells #[.int .i64 mn, .int .i64 av, .int .i64 mx] 24)).alloc (.cells tt 27) = W2 := ⟨_, rfl⟩
  have hB : Below W.heap.size W W2 := by rw [← hW2]; exact ((Below.refl _ _).alloc (Nat.le_refl _) _).alloc (by simp) _
  have hg1 : W2.heap[W.heap.size]? = some (.cells #[.int .i64 mn, .int .i64 av, .int .i64 mx] 24 (0, 0)) := by rw [← hW2]; exact heap_alloc2_old _ _ _
  have hg2 : W2.heap[W.heap.size + 1]? = some (.cells tt 27 (0, 0)) := by rw [← hW2]; exact heap_alloc2_new _ _ _
  have d0 : W2.cell? ⟨W.heap.size, 0, none⟩ = some (.int .i64 mn) := by rw [cell_of_row _ _ _ _ _ _ hg1]; rfl
  have d1 : W2.cell? ⟨W.heap.size, 1, none⟩ = some (.int .i64 av) := by rw [cell_of_row _ _ _ _ _ _ hg1]; rfl
  have d2 : W2.cell? ⟨W.heap.size, 2, none⟩ = some (.int .i64 mx) := by rw [cell_of_row _ _ _ _ _ _ hg1]; rfl
  have G2 := Lib.hid hg2
  clear hg1 hg2
  go_enter Try.func15, Try.ntmps15
  go_wp2_with (refine wpList_load_row rfl 27 (.tmp 4) rfl (W.heap.size + 1) rfl 27 tt (0, 0) _ G2.out Try.underlying27 rfl HI.out ?_)
  refine (HN.out _).mono ?_
  rintro e w1 ⟨rfl, hb1⟩
  go_wp2_with fail
  go_ret2
  exact ⟨rfl, hB.trans (hb1.mono hB.size)⟩

set_option maxRecDepth 20000 in
set_option maxHeartbeats 2000000 in
theorem All_ok (mn av mx : Nat) (tb : List Nat) (A : Option Addr) (c : Nat) (p : List Nat) (W : World) (ht : tb.length = 256) (h : cutOk mn av mx = true)
    (hr : RN .u8 W A p) (hp : ∀ x ∈ p, x < 256) (hl : (p.length + 1) * 24 ≤ 140737488355328) :
    Calls Try.prog 15 #[.agg #[.int .i64 mn, .int .i64 av, .int .i64 mx], .agg (tabA tb), .slice A p.length c] W fun e w' =>
      ∃ v okc, e = .returned (.tuple #[v, .int .i64 0]) ∧ SRow w' okc W.heap.size 32 v (chunks mn av mx tb p) ∧ (∀ k, okc k → W.heap.size ≤ k) ∧ Below W.heap.size W w' := by
  have hnew := fun W => New_ok mn av mx tb W ht h
  have hit : (Try.prog.info? 27).map (·.size) = some (tabA tb).size := by rw [tabA_size, ht]; exact infoT
  have hav : 1 ≤ av ∧ av ≤ 256 ∧ av ∣ 4294967296 := by
    unfold cutOk at h
    simp only [Bool.and_eq_true] at h
    exact isPow_dvd h.2
  obtain ⟨tt, htt⟩ : ∃ tt, tabA tb = tt := ⟨_, rfl⟩
  rw [htt] at hit hnew ⊢
  clear htt
  have HI := Lib.hid hit
  have HN := Lib.hid hnew
  have HL := Lib.hid hl
  have HR := Lib.hid hr
  clear hit hnew hl hr
  obtain ⟨W2, hW2⟩ : ∃ W2, (W.alloc (.cells #[.int .i64 mn, .int .i64 av, .int .i64 mx] 24)).alloc (.cells tt 27) = W2 := ⟨_, rfl⟩
  have hB : Below W.heap.size W W2 := by rw [← hW2]; exact ((Below.refl _ _).alloc (Nat.le_refl _) _).alloc (by simp) _
  have hg1 : W2.heap[W.heap.size]? = some (.cells #[.int .i64 mn, .int .i64 av, .int .i64 mx] 24 (0, 0)) := by rw [← hW2]; exact heap_alloc2_old _ _ _
  have hg2 : W2.heap[W.heap.size + 1]? = some (.cells tt 27 (0, 0)) := by rw [← hW2]; exact heap_alloc2_new _ _ _
  have d0 : W2.cell? ⟨W.heap.size, 0, none⟩ = some (.int .i64 mn) := by rw [cell_of_row _ _ _ _ _ _ hg1]; rfl
  have d1 : W2.cell? ⟨W.heap.size, 1, none⟩ = some (.int .i64 av) := by rw [cell_of_row _ _ _ _ _ _ hg1]; rfl
  have d2 : W2.cell? ⟨W.heap.size, 2, none⟩ = some (.int .i64 mx) := by rw [cell_of_row _ _ _ _ _ _ hg1]; rfl
  have G2 := Lib.hid hg2
  clear hg1 hg2
  go_enter Try.func15, Try.ntmps15
  go_wp2_with (refine wpList_load_row rfl 27 (.tmp 4) rfl (W.heap.size + 1) rfl 27 tt (0, 0) _ G2.out Try.underlying27 rfl HI.out ?_)
  refine (HN.out _).mono ?_
  rintro e w1 ⟨B, rfl, hBB, hcu, hb1⟩
  have hs2 := hB.size
  have hs1 := hb1.size
  have hb01 : Below W.heap.size W w1 := hB.trans (hb1.mono hs2)
  have hr1 : RN .u8 w1 A p := HR.out.move2 (fun a ha h0 => hb01.block _ (HR.out.lt a ha h0))
  have HB01 := Lib.hid hb01
  have HCU := Lib.hid hcu
  have HR1 := Lib.hid hr1
  clear d0 d1 d2 hW2 hb1 hb01 hcu hr1
  go_wp2_with fail
  refine (Write_c w1 w1.heap.size B mn av mx tb (.slice none 0 0) [] A c p ht hav.1 hav.2.1 HCU.out (own_nil _ _ _ _) HR1.out hp (fun a ha h0 => ⟨by have := HR.out.lt a ha h0; omega, by have := HR.out.lt a ha h0; omega⟩) (by simpa using HL.out)).mono ?_
  rintro e w2 ⟨vo, okc, hv, rfl, hso, hokc, hcu2, hoh, hk2⟩
  have hflen := gfold_len mn av mx tb p ([], [])
  have hch : chunks mn av mx tb p = (p.foldl (gstep mn av mx tb) ([], [])).1 ++ if 0 < (p.foldl (gstep mn av mx tb) ([], [])).2.length then [(p.foldl (gstep mn av mx tb) ([], [])).2] else [] := rfl
  obtain ⟨s, hs⟩ : ∃ s, p.foldl (gstep mn av mx tb) ([], []) = s := ⟨_, rfl⟩
  rw [hs] at hso hcu2 hoh hflen hch
  clear hs
  obtain ⟨css, xs⟩ := s
  replace hch : chunks mn av mx tb p = css ++ if 0 < xs.length then [xs] else [] := hch
  have HCH := Lib.hid hch
  clear hch
  replace hso : SRow w2 okc w1.heap.size 32 vo css := hso
  replace hcu2 : CU w2 B mn av mx tb hv (ghash tb xs) false := hcu2
  replace hoh : OwnN .u8 5 w2 w1.heap.size hv xs := hoh
  replace hflen : css.length + xs.length ≤ 0 + 0 + p.length := hflen
  have hx1 : xs.length ≤ 140737488355328 := Nat.le_of_lt (big2 (c := 0) (d := 0) hflen (by simpa using HL.out))
  have hx2 : (css.length + 1) * 24 ≤ 140737488355328 := big1 (c := 0) (d := 0) hflen (by simpa using HL.out)
  have HX1 := Lib.hid hx1
  have HX2 := Lib.hid hx2
  have HSO := Lib.hid hso
  have HOK := Lib.hid hokc
  have HCU2 := Lib.hid hcu2
  have HOH := Lib.hid hoh
  have HK2 := Lib.hid hk2
  clear hso hokc hcu2 hoh hk2 hflen hx1 hx2
  go_wp2_with fail
  refine (End_c w2 w1.heap.size B mn av mx tb hv xs ht HCU2.out HOH.out HX1.out).mono ?_
  rintro e w3 ⟨v3, rfl, ho3, hcu3, hk3⟩
  obtain ⟨A3, c3, rfl, hc3, hr3, _⟩ := ho3.form
  have hs12 := HK2.out.size
  have hs23 := hk3.size
  have hlB : B < w1.heap.size := HCU.out.lt
  have hso3 : SRow w3 okc w1.heap.size 32 vo css := HSO.out.move hs23 (fun k hk => by
    rcases hk with hk | hk
    · exact hk3.block k (HSO.out.okc_lt k hk) (by have := (HOK.out k hk).1; omega)
    · obtain ⟨h1, h2, _⟩ := HSO.out.typed k hk
      exact hk3.block k h2 (by omega))
  have hA3 : ∀ a, A3 = some a → a.block < w3.heap.size ∧ vo.ownBlock ≠ some a.block := fun a ha => by
    obtain ⟨h1, h2, _⟩ := ho3.typed a.block (by rw [ha]; rfl)
    refine ⟨h2, fun hh => ?_⟩
    have := (HSO.out.typed _ hh).2.1
    omega
  have hb3 : Below W.heap.size W w3 := ⟨hk3.os.trans (HK2.out.os.trans HB01.out.os), hk3.tape.trans (HK2.out.tape.trans HB01.out.tape), hk3.output.trans (HK2.out.output.trans HB01.out.output), by have := HB01.out.size; omega, fun k hk => by
    have := HB01.out.size
    exact (hk3.block k (by omega) (by omega)).trans ((HK2.out.block k (by omega) (by omega)).trans (HB01.out.block k hk))⟩
  have HSO3 := Lib.hid hso3
  have HA3 := Lib.hid hA3
  have HB3 := Lib.hid hb3
  have HR3 := Lib.hid hr3
  have ho3k : ∀ a, A3 = some a → W.heap.size ≤ a.block := fun a ha => by
    have := (ho3.typed a.block (by rw [ha]; rfl)).1
    have := HB01.out.size
    omega
  have HO3K := Lib.hid ho3k
  clear hso3 hA3 hb3 hr3 ho3k ho3 hcu3 hk3
  have hwl := HB01.out.size
  by_cases hn : 0 < xs.length
  · have hd : decide ((0 : Int) < xs.length) = true := decide_eq_true (by omega)
    have hn2 : decide (0 < xs.length) = true := decide_eq_true hn
    have HNN := Lib.hid hn
    clear hn
    go_wp2_with (at_builtin; refine append_Sn w1.heap.size rfl (.tmp 37) (.tmp 39) 34 32 rfl Try.underlying34 info_bytes vo okc css A3 c3 xs xs.length rfl rfl w3.heap.size rfl rfl HSO3.out HR3.out hc3 HA3.out (by omega) HX2.out ?_; intro v7 w7 hsr7 hg7 hat7)
    go_ret2
    refine ⟨v7, fun k => okc k ∨ ∃ a, A3 = some a ∧ k = a.block, rfl, ?_, ?_, ?_⟩
    · rw [HCH.out, if_pos HNN.out]
      exact hsr7.lower hwl
    · rintro k (hk | ⟨a, ha, rfl⟩)
      · have := (HOK.out k hk).1; omega
      · exact HO3K.out a ha
    · have hb3 := HB3.out
      refine ⟨hg7.os.trans hb3.os, hg7.tape.trans hb3.tape, hg7.output.trans hb3.output, Nat.le_trans hb3.size hg7.size, fun k hk => ?_⟩
      refine (hg7.block k (by omega) (fun hh => ?_)).trans (hb3.block k hk)
      have := (HSO3.out.typed k hh.symm).1
      omega
  · have hd : decide ((0 : Int) < xs.length) = false := decide_eq_false (by omega)
    have hn2 : decide (0 < xs.length) = false := decide_eq_false hn
    have HNN := Lib.hid hn
    clear hn
    go_wp2_with fail
    go_ret2
    refine ⟨_, okc, rfl, ?_, fun k hk => by have := (HOK.out k hk).1; omega, HB3.out⟩
    rw [HCH.out, if_neg HNN.out, List.append_nil]
    exact HSO3.out.lower hwl
end Go.Proofs.Ytbckibjpaiealaa.F
