/- The document's chunks, and are rows the same, walked. -/
import Derived.Test.YtbckibjpaiealaaGv
set_option linter.unusedVariables false
set_option linter.unusedSimpArgs false
namespace Go.Proofs.Ytbckibjpaiealaa.F
open Go.RowKit Go.Proofs.YtbckibjpaiealaaW.PrintWords

set_option maxRecDepth 20000 in
theorem refAll_bad (mn av mx : Int) (tb : List Nat) (A : Option Addr) (c n : Nat) (W : World) (ht : tb.length = 256) (h : cutOk mn av mx = false) :
    Calls Try.prog 16 #[.agg #[.int .i64 mn, .int .i64 av, .int .i64 mx], .agg (tabA tb), .slice A n c] W fun e w' => e = .returned (.tuple #[.slice none 0 0, .int .i64 2]) ∧ Below W.heap.size W w' := by
  have hck : checkV mn av mx = 2 := by unfold checkV; rw [h]; rfl
  have hnew := fun W => refCheck_c mn av mx W
  rw [hck] at hnew
  have hit : (Try.prog.info? 27).map (·.size) = some (tabA tb).size := by rw [tabA_size, ht]; exact infoT
  obtain ⟨tt, htt⟩ : ∃ tt, tabA tb = tt := ⟨_, rfl⟩
  rw [htt] at hit ⊢
  clear htt
  have HI := Lib.hid hit
  have HN := Lib.hid hnew
  clear hit hnew
  obtain ⟨W2, hW2⟩ : ∃ W2, (W.alloc (.cells #[.int .i64 mn, .int .i64 av, .int .i64 mx] 24)).alloc (.cells tt 27) = W2 := ⟨_, rfl⟩
  have hB : Below W.heap.size W W2 := by rw [← hW2]; exact ((Below.refl _ _).alloc (Nat.le_refl _) _).alloc (by simp) _
  have hg1 : W2.heap[W.heap.size]? = some (.cells #[.int .i64 mn, .int .i64 av, .int .i64 mx] 24 (0, 0)) := by rw [← hW2]; exact heap_alloc2_old _ _ _
  have d0 : W2.cell? ⟨W.heap.size, 0, none⟩ = some (.int .i64 mn) := by rw [cell_of_row _ _ _ _ _ _ hg1]; rfl
  have d1 : W2.cell? ⟨W.heap.size, 1, none⟩ = some (.int .i64 av) := by rw [cell_of_row _ _ _ _ _ _ hg1]; rfl
  have d2 : W2.cell? ⟨W.heap.size, 2, none⟩ = some (.int .i64 mx) := by rw [cell_of_row _ _ _ _ _ _ hg1]; rfl
  clear hg1
  go_enter Try.func16, Try.ntmps16
  go_wp2_with fail
  refine (HN.out _).mono ?_
  rintro e w1 ⟨rfl, hb1⟩
  go_wp2_with fail
  go_ret2
  exact ⟨rfl, hB.trans (hb1.mono hB.size)⟩

theorem split_len (mn av mx : Nat) (tb : List Nat) : ∀ (N : Nat) (p : List Nat), (∀ r, first mn av mx tb r ≠ 0 → 1 ≤ first mn av mx tb r ∧ first mn av mx tb r ≤ r.length) → (split mn av mx tb N p).1.length + (split mn av mx tb N p).2.length ≤ p.length
  | 0, p, _ => by simp [split]
  | N + 1, p, h => by
    unfold split
    by_cases h0 : first mn av mx tb p = 0
    · rw [if_pos h0]; simp
    · rw [if_neg h0]
      have h1 := h p h0
      have ih := split_len mn av mx tb N (p.drop (first mn av mx tb p)) h
      simp only [List.length_cons, List.length_drop] at ih ⊢
      omega

set_option maxRecDepth 20000 in
set_option maxHeartbeats 2000000 in
theorem refAll_ok (mn av mx : Nat) (tb : List Nat) (A : Option Addr) (c : Nat) (p : List Nat) (W : World) (ht : tb.length = 256) (hb : ∀ x ∈ tb, x < 4294967296) (h : cutOk mn av mx = true)
    (hr : RN .u8 W A p) (hp : ∀ x ∈ p, x < 256) (hn : p.length ≤ 10000000) :
    Calls Try.prog 16 #[.agg #[.int .i64 mn, .int .i64 av, .int .i64 mx], .agg (tabA tb), .slice A p.length c] W fun e w' =>
      ∃ v okc, e = .returned (.tuple #[v, .int .i64 0]) ∧ SRow w' okc W.heap.size 32 v (chunks mn av mx tb p) ∧ (∀ k, okc k → W.heap.size ≤ k) ∧ Below W.heap.size W w' := by
  have hav : 1 ≤ av ∧ av ≤ 256 ∧ av ∣ 4294967296 := by
    unfold cutOk at h
    simp only [Bool.and_eq_true] at h
    exact isPow_dvd h.2
  have hmn : 1 ≤ mn ∧ mn ≤ mx ∧ mx ≤ 512 := by
    unfold cutOk at h
    simp only [Bool.and_eq_true, decide_eq_true_eq] at h
    omega
  have hsplit := fun W hr => Split_c A c mn av mx tb p W ht hb hr hp hmn.1 hmn.2.1 hmn.2.2 hav.2.1 hn (p.length + 1) (Nat.lt_succ_self _)
  have hch : chunks mn av mx tb p = (split mn av mx tb (p.length + 1) p).1 ++ if 0 < (split mn av mx tb (p.length + 1) p).2.length then [(split mn av mx tb (p.length + 1) p).2] else [] := by
    unfold chunks
    rw [fold_nil mn av mx tb p hmn.1 hav.1 hav.2.2 (p.length + 1) (Nat.lt_succ_self _)]
  have hlen := split_len mn av mx tb (p.length + 1) p (fun r hr0 => by have := first_bd tb r hr0; omega)
  obtain ⟨s, hs⟩ : ∃ s, split mn av mx tb (p.length + 1) p = s := ⟨_, rfl⟩
  rw [hs] at hsplit hch hlen
  clear hs
  obtain ⟨css, xs⟩ := s
  replace hch : chunks mn av mx tb p = css ++ if 0 < xs.length then [xs] else [] := hch
  replace hlen : css.length + xs.length ≤ p.length := hlen
  have hl2 : (css.length + 1) * 24 ≤ 140737488355328 := by omega
  have HL2 := Lib.hid hl2
  have HCH := Lib.hid hch
  have hck : checkV mn av mx = 0 := by unfold checkV; rw [h]; rfl
  have hnew := fun W => refCheck_c mn av mx W
  rw [hck] at hnew
  have hit : (Try.prog.info? 27).map (·.size) = some (tabA tb).size := by rw [tabA_size, ht]; exact infoT
  clear hl2 hch hck
  obtain ⟨tt, htt⟩ : ∃ tt, tabA tb = tt := ⟨_, rfl⟩
  rw [htt] at hit hsplit ⊢
  clear htt
  have HI := Lib.hid hit
  have HN := Lib.hid hnew
  have HS := Lib.hid hsplit
  clear hit hnew hsplit
  obtain ⟨W2, hW2⟩ : ∃ W2, (W.alloc (.cells #[.int .i64 mn, .int .i64 av, .int .i64 mx] 24)).alloc (.cells tt 27) = W2 := ⟨_, rfl⟩
  have hB : Below W.heap.size W W2 := by rw [← hW2]; exact ((Below.refl _ _).alloc (Nat.le_refl _) _).alloc (by simp) _
  have hs2 : W2.heap.size = W.heap.size + 1 + 1 := by rw [← hW2]; simp
  have hg1 : W2.heap[W.heap.size]? = some (.cells #[.int .i64 mn, .int .i64 av, .int .i64 mx] 24 (0, 0)) := by rw [← hW2]; exact heap_alloc2_old _ _ _
  have hg2 : W2.heap[W.heap.size + 1]? = some (.cells tt 27 (0, 0)) := by rw [← hW2]; exact heap_alloc2_new _ _ _
  have d0 : W2.cell? ⟨W.heap.size, 0, none⟩ = some (.int .i64 mn) := by rw [cell_of_row _ _ _ _ _ _ hg1]; rfl
  have d1 : W2.cell? ⟨W.heap.size, 1, none⟩ = some (.int .i64 av) := by rw [cell_of_row _ _ _ _ _ _ hg1]; rfl
  have d2 : W2.cell? ⟨W.heap.size, 2, none⟩ = some (.int .i64 mx) := by rw [cell_of_row _ _ _ _ _ _ hg1]; rfl
  go_enter Try.func16, Try.ntmps16
  go_wp2_with fail
  refine (HN.out _).mono ?_
  rintro e w1 ⟨rfl, hb1⟩
  have e1 : w1.heap[W.heap.size]? = some (.cells #[.int .i64 mn, .int .i64 av, .int .i64 mx] 24 (0, 0)) := (hb1.block _ (by omega)).trans hg1
  have e2 : w1.heap[W.heap.size + 1]? = some (.cells tt 27 (0, 0)) := (hb1.block _ (by omega)).trans hg2
  have c0 : w1.cell? ⟨W.heap.size, 0, none⟩ = some (.int .i64 mn) := by rw [cell_of_row _ _ _ _ _ _ e1]; rfl
  have c1 : w1.cell? ⟨W.heap.size, 1, none⟩ = some (.int .i64 av) := by rw [cell_of_row _ _ _ _ _ _ e1]; rfl
  have c2 : w1.cell? ⟨W.heap.size, 2, none⟩ = some (.int .i64 mx) := by rw [cell_of_row _ _ _ _ _ _ e1]; rfl
  have hb01 : Below W.heap.size W w1 := hB.trans (hb1.mono hB.size)
  have E2 := Lib.hid e2
  have HB := Lib.hid hb01
  clear hg1 hg2 e1 e2 hb1 hb01 hs2 hW2 d0 d1 d2
  go_wp2_with (refine wpList_load_row rfl 27 (.tmp 4) rfl (W.heap.size + 1) rfl 27 tt (0, 0) _ E2.out Try.underlying27 rfl HI.out ?_)
  refine (HS.out _ (hr.below HB.out)).mono ?_
  rintro e w2 ⟨vo, A3, c3, okc, rfl, hso, hokc, hr3, hc3, hA3, hb2⟩
  have hwl := HB.out.size
  have hb3 : Below W.heap.size W w2 := HB.out.trans (hb2.mono hwl)
  have HSO := Lib.hid hso
  have HOK := Lib.hid hokc
  have HR3 := Lib.hid hr3
  have HA3 := Lib.hid hA3
  have HB3 := Lib.hid hb3
  have hs12 := hb2.size
  clear hso hokc hr3 hA3 hb3 hb2
  replace hc3 : xs.length ≤ c3 := hc3
  by_cases hnx : 0 < xs.length
  · have hd : decide ((0 : Int) < xs.length) = true := decide_eq_true (by omega)
    have hn2 : decide (0 < xs.length) = true := decide_eq_true hnx
    have HNN := Lib.hid hnx
    clear hnx
    go_wp2_with (at_builtin; refine append_Sn w1.heap.size rfl (.tmp 26) (.tmp 28) 34 32 rfl Try.underlying34 info_bytes vo okc css A3 c3 xs xs.length rfl rfl w2.heap.size rfl rfl HSO.out HR3.out hc3 (fun a ha => (HA3.out a ha).2) hs12 HL2.out ?_; intro v7 w7 hsr7 hg7 hat7)
    go_ret2
    refine ⟨v7, fun k => okc k ∨ ∃ a, A3 = some a ∧ k = a.block, rfl, ?_, ?_, ?_⟩
    · rw [HCH.out, if_pos HNN.out]
      exact hsr7.lower hwl
    · rintro k (hk | ⟨a, ha, rfl⟩)
      · have := HOK.out k hk; omega
      · have := (HA3.out a ha).1; omega
    · have hb3 := HB3.out
      refine ⟨hg7.os.trans hb3.os, hg7.tape.trans hb3.tape, hg7.output.trans hb3.output, Nat.le_trans hb3.size hg7.size, fun k hk => ?_⟩
      refine (hg7.block k (by have := hb3.size; omega) (fun hh => ?_)).trans (hb3.block k hk)
      have := (HSO.out.typed k hh.symm).1
      omega
  · have hd : decide ((0 : Int) < xs.length) = false := decide_eq_false (by omega)
    have hn2 : decide (0 < xs.length) = false := decide_eq_false hnx
    have HNN := Lib.hid hnx
    clear hnx
    go_wp2_with fail
    go_ret2
    refine ⟨_, okc, rfl, ?_, fun k hk => by have := HOK.out k hk; omega, HB3.out⟩
    rw [HCH.out, if_neg HNN.out, List.append_nil]
    exact HSO.out.lower hwl

/-- What comes of a text. -/
def allOut (mn av mx : Int) (tb p : List Nat) : List (List Nat) := if cutOk mn av mx = true then chunks mn.toNat av.toNat mx.toNat tb p else []
theorem cut_nat {mn av mx : Int} (h : cutOk mn av mx = true) : ∃ a b c : Nat, mn = a ∧ av = b ∧ mx = c := by
  have h' := h
  unfold cutOk at h'
  simp only [Bool.and_eq_true, decide_eq_true_eq] at h'
  have := isPow_range h'.2
  exact ⟨mn.toNat, av.toNat, mx.toNat, by omega, by omega, by omega⟩
theorem All_c (mn av mx : Int) (tb : List Nat) (A : Option Addr) (c : Nat) (p : List Nat) (W : World) (ht : tb.length = 256)
    (hr : RN .u8 W A p) (hp : ∀ x ∈ p, x < 256) (hl : (p.length + 1) * 24 ≤ 140737488355328) :
    Calls Try.prog 15 #[.agg #[.int .i64 mn, .int .i64 av, .int .i64 mx], .agg (tabA tb), .slice A p.length c] W fun e w' =>
      ∃ v okc, e = .returned (.tuple #[v, .int .i64 (checkV mn av mx)]) ∧ SRow w' okc W.heap.size 32 v (allOut mn av mx tb p) ∧ Below W.heap.size W w' := by
  unfold checkV allOut
  by_cases h : cutOk mn av mx = true
  · obtain ⟨a, b, d, rfl, rfl, rfl⟩ := cut_nat h
    rw [if_pos h, if_pos h]
    refine (All_ok a b d tb A c p W ht h hr hp hl).mono ?_
    rintro e w' ⟨v, okc, h1, h2, _, h4⟩
    exact ⟨v, okc, h1, h2, h4⟩
  · rw [if_neg h, if_neg h]
    refine (All_bad mn av mx tb A c p.length W ht (by simpa using h)).mono ?_
    rintro e w' ⟨h1, h2⟩
    exact ⟨_, _, h1, SRow.nil _ _ _, h2⟩
theorem refAll_c (mn av mx : Int) (tb : List Nat) (A : Option Addr) (c : Nat) (p : List Nat) (W : World) (ht : tb.length = 256) (hb : ∀ x ∈ tb, x < 4294967296)
    (hr : RN .u8 W A p) (hp : ∀ x ∈ p, x < 256) (hl : p.length ≤ 10000000) :
    Calls Try.prog 16 #[.agg #[.int .i64 mn, .int .i64 av, .int .i64 mx], .agg (tabA tb), .slice A p.length c] W fun e w' =>
      ∃ v okc, e = .returned (.tuple #[v, .int .i64 (checkV mn av mx)]) ∧ SRow w' okc W.heap.size 32 v (allOut mn av mx tb p) ∧ Below W.heap.size W w' := by
  unfold checkV allOut
  by_cases h : cutOk mn av mx = true
  · obtain ⟨a, b, d, rfl, rfl, rfl⟩ := cut_nat h
    rw [if_pos h, if_pos h]
    refine (refAll_ok a b d tb A c p W ht hb h hr hp hl).mono ?_
    rintro e w' ⟨v, okc, h1, h2, _, h4⟩
    exact ⟨v, okc, h1, h2, h4⟩
  · rw [if_neg h, if_neg h]
    refine (refAll_bad mn av mx tb A c p.length W ht (by simpa using h)).mono ?_
    rintro e w' ⟨h1, h2⟩
    exact ⟨_, _, h1, SRow.nil _ _ _, h2⟩

theorem small_c (A : Option Addr) (c : Nat) (p : List Nat) (W : World) (hr : RN .u8 W A p) (hc : p.length ≤ c) :
    Calls Try.prog 14 #[.slice A p.length c] W fun e w' => e = .returned (.slice A (p.take 3000).length c) ∧ w' = W := by
  have hm := hr.max
  by_cases h : 3000 < p.length
  · have hd : decide ((3000 : Int) < p.length) = true := decide_eq_true (by omega)
    have hl : (p.take 3000).length = 3000 := by rw [List.length_take]; omega
    have h3 : (3000 : Int) ≤ c := by omega
    have h3' : 3000 ≤ c := by omega
    rw [hl]
    go_enter Try.func14, Try.ntmps14
    go_wp2_with fail
    go_ret
    exact ⟨rfl, rfl⟩
  · have hd : decide ((3000 : Int) < p.length) = false := decide_eq_false (by omega)
    have hd2 : decide (3000 < p.length) = false := decide_eq_false h
    have hl : (p.take 3000) = p := List.take_of_length_le (by omega)
    rw [hl]
    go_enter Try.func14, Try.ntmps14
    go_wp2_with fail
    go_ret
    exact ⟨rfl, rfl⟩

theorem RR.drewN {W : World} {A : Option Addr} {css : List (List Nat)} (h : RR W A css) (n : Nat) : RR (W.drewN n) A css := h.below (pw_below_drewN (Below.refl _ _) n)
set_option maxRecDepth 20000 in
theorem Same_c (A A' : Option Addr) (c c' : Nat) (css : List (List Nat)) (W : World) (h1 : RR W A css) (h2 : RR W A' css) :
    Calls Try.prog 17 #[.slice A css.length c, .slice A' css.length c'] W fun e w' => e = .returned (.bool true) ∧ ∃ n, w' = W.drewN n := by
  have hm := h1.max
  have hne : ((css.length : Int) != css.length) = false := by simp
  go_enter Try.func17, Try.ntmps17
  go_wp2_with fail
  go_loopw [5] (fun vk W' => ∃ k : Nat, k ≤ css.length ∧ vk = .int .i64 k ∧ Drawn0 W W') (fun vk _ => css.length - (intOf vk).toNat)
  case atStart => exact ⟨0, by omega, rfl, Drawn0.refl _⟩
  case round =>
    obtain ⟨k, hk, rfl, hW⟩ := hrel
    by_cases hlt : k < css.length
    · have hd : decide ((k : Int) < css.length) = true := by simp; omega
      have g1 := h1.below hW.below
      have g2 := h2.below hW.below
      have i0 : (0 : Int) ≤ (k : Int) := by omega
      have i1 : (k : Int) < (css.length : Int) := by omega
      obtain ⟨ad, B1, b1, e, q1, l1, r1⟩ := g1.at k hlt
      subst e
      obtain ⟨bd, B2, b2, e, q2, l2, r2⟩ := g2.at k hlt
      subst e
      obtain ⟨xs, hxs⟩ : ∃ xs, css[k] = xs := ⟨_, rfl⟩
      rw [hxs] at q1 q2 r1 r2
      clear hxs l1 l2
      have q1' : ∀ n, (wr.drewN n).cell? (ad.add k) = some (.slice B1 xs.length b1) := fun _ => q1
      have q2' : ∀ n, (wr.drewN n).cell? (bd.add k) = some (.slice B2 xs.length b2) := fun _ => q2
      have s1 := fun n => RN.string (c := b1) Try.underlying32 Try.underlying5 Try.underlying9 (r1.drewN n)
      have s2 := fun n => RN.string (c := b2) Try.underlying32 Try.underlying5 Try.underlying9 (r2.drewN n)
      clear q1 q2 r1 r2 g1 g2
      go_wp2_with fail
      go_quiet (fail)
      go_wp2_with fail
      exact ⟨⟨k + 1, by omega, by go_num, hW.step _⟩, by simp [intOf]; omega⟩
    · have hd : decide ((k : Int) < css.length) = false := by simp; omega
      go_wp2_with fail
      go_ret
      exact ⟨rfl, hW.out⟩
end Go.Proofs.Ytbckibjpaiealaa.F
