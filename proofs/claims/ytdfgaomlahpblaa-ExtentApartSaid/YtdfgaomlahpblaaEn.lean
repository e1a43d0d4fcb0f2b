/- What a map tells; a nil map; a Fork. -/
import Derived.Test.YtdfgaomlahpblaaEm
set_option linter.unusedVariables false
set_option linter.unusedSimpArgs false
namespace Go.Proofs.Ytdfgaomlahpblaa.F
open Go.RowKit Go.Proofs.YtdfgaomlahpblaaW.PrintWords

theorem Take_nil (n : Int) (w : World) : Calls Try.prog 13 #[.pointer none, .int .i64 n] w fun e w' => e = .returned (.tuple #[.int .i64 0, .int .i64 1]) ∧ Below w.heap.size w w' := by
  have hb : Below w.heap.size w (w.alloc (.cells #[.int .i64 n] 3)) := (Below.refl _ _).alloc (Nat.le_refl _) _
  have HB := Lib.hid hb
  clear hb
  go_enter Try.func13, Try.ntmps13
  go_wp2_with fail
  go_ret2
  exact ⟨rfl, HB.out⟩
theorem Claim_nil (a n : Int) (w : World) : Calls Try.prog 22 #[.pointer none, .agg #[.int .i64 a, .int .i64 n]] w fun e w' => e = .returned (.int .i64 1) ∧ Below w.heap.size w w' := by
  have hb : Below w.heap.size w (w.alloc (.cells #[.int .i64 a, .int .i64 n] 38)) := (Below.refl _ _).alloc (Nat.le_refl _) _
  have HB := Lib.hid hb
  clear hb
  go_enter Try.func22, Try.ntmps22
  go_wp2_with fail
  go_ret
  exact ⟨rfl, HB.out⟩
theorem Give_nil (a n : Int) (w : World) : Calls Try.prog 14 #[.pointer none, .agg #[.int .i64 a, .int .i64 n]] w fun e w' => e = .returned (.int .i64 1) ∧ Below w.heap.size w w' := by
  have hb : Below w.heap.size w (w.alloc (.cells #[.int .i64 a, .int .i64 n] 38)) := (Below.refl _ _).alloc (Nat.le_refl _) _
  have HB := Lib.hid hb
  clear hb
  go_enter Try.func14, Try.ntmps14
  go_wp2_with fail
  go_ret
  exact ⟨rfl, HB.out⟩
/-- What Runs answers. -/
def RunsAns (l : List Rn) (w : World) (e : Ending) (w' : World) : Prop := ∃ v, e = .returned v ∧ OR w' w.heap.size v l ∧ Below w.heap.size w w'
theorem Runs_nil (w : World) : Calls Try.prog 16 #[.pointer none] w (RunsAns [] w) := by
  go_enter Try.func16, Try.ntmps16
  go_wp2_with fail
  go_ret
  exact ⟨_, rfl, OR.nil _ _, Below.refl _ _⟩
theorem em_row {W : World} {base b f t : Nat} {l : List Rn} (h : EM W base b f t l) : ∃ A c, EMb W b f t (.slice A l.length c) ∧ OR W base (.slice A l.length c) l ∧ RU W A l ∧ (A = none ↔ l = []) := by
  obtain ⟨v, h1, h2, h3⟩ := h
  obtain ⟨A, c, e, hc, hr⟩ := h2.reads
  subst e
  refine ⟨A, c, h1, h2, hr, ?_⟩
  constructor
  · intro e
    subst e
    rcases Nat.eq_zero_or_pos l.length with h | h
    · exact List.eq_nil_of_length_eq_zero h
    · obtain ⟨g, c', e, _⟩ := or_some h2 h
      cases e
  · intro e
    have h := h3 e
    injection h
theorem Runs_c (base b f t : Nat) (l : List Rn) (w : World) (hm : EM w base b f t l) (hl : l.length ≤ 10000) : Calls Try.prog 16 #[.pointer (some ⟨b, 0, none⟩)] w (RunsAns l w) := by
  obtain ⟨A, c, hme, ho, hr, hA⟩ := em_row hm
  have c2 := hme.c2
  have hcl := Clone_c A c l w hr hA (by omega)
  have HCL := Lib.hid hcl
  clear hcl hme ho hr hA hm
  go_enter Try.func16, Try.ntmps16
  go_wp2_with fail
  refine HCL.out.mono ?_
  rintro e w2 ⟨v2, rfl, ho2, hb2⟩
  have HO2 := Lib.hid ho2
  have HB2 := Lib.hid hb2
  clear ho2 hb2
  go_wp2_with fail
  go_ret
  exact ⟨_, rfl, HO2.out, HB2.out⟩
/-- A closure that reckons on in a variable. -/
def Reck (g : Nat) (bx : Nat) (F : Nat → Nat → Nat) : Prop := ∀ W (acc n : Nat), W.cell? ⟨bx, 0, none⟩ = some (.int .i64 (acc : Nat)) → W.frozen? ⟨bx, 0, none⟩ = false → acc ≤ 100000000 → n ≤ 4096 → Calls Try.prog g #[.int .i64 (n : Nat), .pointer (some ⟨bx, 0, none⟩)] W fun e w' => e = .returned (.tuple #[]) ∧ w' = W.setCell ⟨bx, 0, none⟩ (.int .i64 ((F acc n : Nat) : Int))
theorem free_reck (bx : Nat) : Reck 24 bx (fun a n => a + n) := fun W acc n hc hf h1 h2 => by
  have k1 : (acc : Int) + n ≤ 200000000 := by omega
  have k2 : (0 : Int) ≤ (acc : Int) + n := by omega
  go_enter Try.func24, Try.ntmps24
  go_wp2_with fail
  go_end0
  exact ⟨rfl, by simp⟩
theorem most_reck (bx : Nat) : Reck 25 bx (fun a n => max a n) := fun W acc n hc hf h1 h2 => by
  by_cases h : acc < n
  · have d1 : decide ((acc : Int) < n) = true := decide_eq_true (by omega)
    have d2 : (if (acc : Int) < (n : Int) then (n : Int) else acc) = n := if_pos (by omega)
    go_enter Try.func25, Try.ntmps25
    go_wp2_with fail
    go_end0
    exact ⟨rfl, by rw [Nat.max_eq_right (by omega)]⟩
  · have d1 : decide ((acc : Int) < n) = false := decide_eq_false (by omega)
    go_enter Try.func25, Try.ntmps25
    go_wp2_with fail
    go_end0
    exact ⟨rfl, by rw [Nat.max_eq_left (by omega)]⟩
def foldR (F : Nat → Nat → Nat) (l : List Rn) : Nat := (l.map (·.2)).foldl F 0
theorem foldR_succ (F : Nat → Nat → Nat) (l : List Rn) (j : Nat) (h : j < l.length) : foldR F (l.take (j + 1)) = F (foldR F (l.take j)) l[j].2 := by
  unfold foldR
  rw [List.take_succ_eq_append_getElem h, List.map_append, List.foldl_append]
  rfl
theorem foldR_le (F : Nat → Nat → Nat) (hF : ∀ a n, F a n ≤ a + n) (l : List Rn) (hl : ∀ r ∈ l, r.2 ≤ 4096) : ∀ j, j ≤ l.length → foldR F (l.take j) ≤ j * 4096
  | 0, _ => by simp [foldR]
  | j + 1, h => by
    rw [foldR_succ F l j (by omega)]
    have h1 := foldR_le F hF l hl j (by omega)
    have h2 := hF (foldR F (l.take j)) (l[j]'(by omega)).2
    have h3 := hl _ (List.getElem_mem (show j < l.length by omega))
    omega
set_option maxRecDepth 20000 in
set_option maxHeartbeats 4000000 in
theorem each_c (mp : Value) (g bx : Nat) (F : Nat → Nat → Nat) (l : List Rn) (w : World) (htold : Calls Try.prog 16 #[mp] w (RunsAns l w)) (hre : Reck g bx F)
    (eg : ∀ args W, Sem.run Try.prog (callFunc g args) W = .ok (.enter g args) W) (hbox : w.heap[bx]? = some (.cells #[.int .i64 0] 3 (0, 0))) (hF : ∀ a n, F a n ≤ a + n) (hl : ∀ r ∈ l, r.2 ≤ 4096) (hn : l.length ≤ 10000) :
    Calls Try.prog 23 #[mp, .func (.func 16) #[] #[], .func (.func g) #[] #[.pointer (some ⟨bx, 0, none⟩)]] w fun e w' => e = .returned (.tuple #[]) ∧ w'.heap[bx]? = some (.cells #[.int .i64 (foldR F l : Nat)] 3 (0, 0)) ∧ Gr (fun k => k = bx) w w' := by
  have er : ∀ args W, Sem.run Try.prog (callFunc 16 args) W = .ok (.enter 16 args) W := fun _ _ => by kernel_rfl
  have hbw : bx < w.heap.size := (Array.getElem?_eq_some_iff.1 hbox).1
  have HT := Lib.hid htold
  have HRE := Lib.hid hre
  have HBOX := Lib.hid hbox
  have HLE := Lib.hid (foldR_le F hF l hl)
  have HLL := Lib.hid hl
  clear htold hre hbox hF hl
  go_enter Try.func23, Try.ntmps23
  go_wp2_with fail
  refine HT.out.mono ?_
  rintro e w2 ⟨v2, rfl, ho2, hb2⟩
  obtain ⟨A2, c2, e2, _, hr2⟩ := ho2.reads
  subst e2
  have hne2 : ∀ a, A2 = some a → a.block ≠ bx := fun a ha e => by
    have := (ho2.typed a.block (by rw [ha]; rfl)).1
    omega
  have hbox2 := (hb2.block bx hbw).trans HBOX.out
  have hmx := hr2.max
  have HR2 := Lib.hid hr2
  have HBX2 := Lib.hid hbox2
  have HNE := Lib.hid hne2
  have HG2 := Lib.hid (Gr.of_below (fun k => k = bx) hb2)
  have hs2 := hb2.size
  clear ho2 hb2 hr2 hbox2 hne2
  go_wp2_with fail
  go_loopw [12] (fun vi W => ∃ j : Nat, j ≤ l.length ∧ vi = .int .i64 j ∧ W.heap[bx]? = some (.cells #[.int .i64 (foldR F (l.take j) : Nat)] 3 (0, 0)) ∧ RU W A2 l ∧ Gr (fun k => k = bx) w W) (fun vi _ => l.length - (intOf vi).toNat)
  case atStart => exact ⟨0, by omega, rfl, HBX2.out, HR2.out, HG2.out⟩
  case round =>
    obtain ⟨j, hj, rfl, hbx, hr, hg⟩ := hrel
    have HR := Lib.hid hr
    have HG := Lib.hid hg
    have HBXj := Lib.hid hbx
    have hsz := hg.size
    clear hbx hr hg
    by_cases hlt : j < l.length
    · have hd : decide ((j : Int) < l.length) = true := decide_eq_true (by omega)
      obtain ⟨gb, o, e, hgb, d1, d2⟩ := HR.out.at j hlt
      subst e
      have hst := foldR_succ F l j hlt
      have hle := HLE.out j (by omega)
      have hl2 := HLL.out _ (List.getElem_mem hlt)
      have i0 : (0 : Int) ≤ (j : Int) := by omega
      have i1 : (j : Int) < (l.length : Int) := by omega
      obtain ⟨⟨p, q⟩, hpq⟩ : ∃ x, l[j] = x := ⟨_, rfl⟩
      rw [hpq] at d1 d2 hst hl2
      dsimp only at d1 d2 hst hl2
      obtain ⟨acc, hacc⟩ : ∃ acc, foldR F (l.take j) = acc := ⟨_, rfl⟩
      rw [hacc] at hst hle HBXj
      have HST := Lib.hid hst
      have hba : Below wr.heap.size wr (wr.alloc (.cells #[.int .i64 (p : Nat), .int .i64 (q : Nat)] 38)) := (Below.refl _ _).alloc (Nat.le_refl _) _
      have hbxa := (hba.block bx (by omega)).trans HBXj.out
      have hcall := HRE.out (wr.alloc (.cells #[.int .i64 (p : Nat), .int .i64 (q : Nat)] 38)) acc q (by rw [cell_of_row _ _ _ _ _ _ hbxa]; rfl) (frozen_of_row _ _ _ _ _ hbxa) (by omega) hl2
      have hra := HR.out.below hba
      have hga : Gr (fun k => k = bx) w ((wr.alloc (.cells #[.int .i64 (p : Nat), .int .i64 (q : Nat)] 38)).setCell ⟨bx, 0, none⟩ (.int .i64 ((F acc q : Nat) : Int))) :=
        (HG.out.trans (Gr.of_below (fun k => k = bx) hba) (fun _ _ h => h)).trans (Gr.setCell (S := fun k => k = bx) _ ⟨bx, 0, none⟩ _ rfl) (fun _ _ h => h)
      have hrb : RU ((wr.alloc (.cells #[.int .i64 (p : Nat), .int .i64 (q : Nat)] 38)).setCell ⟨bx, 0, none⟩ (.int .i64 ((F acc q : Nat) : Int))) (some ⟨gb, o, none⟩) l :=
        hra.move (by simp) (fun a ha _ => heap_setCell_other _ _ _ _ (fun e => HNE.out a ha e))
      have hbb : ((wr.alloc (.cells #[.int .i64 (p : Nat), .int .i64 (q : Nat)] 38)).setCell ⟨bx, 0, none⟩ (.int .i64 ((F acc q : Nat) : Int))).heap[bx]? = some (.cells #[.int .i64 ((F acc q : Nat) : Int)] 3 (0, 0)) := heap_setCell_same _ _ _ _ _ _ hbxa
      have HCALL := Lib.hid hcall
      have HGA := Lib.hid hga
      have HRB := Lib.hid hrb
      have HBB := Lib.hid hbb
      clear hpq hacc hst hle hl2 hba hbxa hcall hra hga hrb hbb
      go_wp2_with fail
      refine HCALL.out.mono ?_
      rintro e w5 ⟨rfl, rfl⟩
      go_wp2_with fail
      exact ⟨⟨j + 1, by omega, by go_num, by rw [HST.out]; exact HBB.out, HRB.out, HGA.out⟩, by simp [intOf]; omega⟩
    · have hd : decide ((j : Int) < l.length) = false := decide_eq_false (by omega)
      obtain rfl : j = l.length := by omega
      rw [List.take_length] at HBXj
      go_wp2_with fail
      go_end0
      exact ⟨rfl, HBXj.out, HG.out⟩
end Go.Proofs.Ytdfgaomlahpblaa.F
