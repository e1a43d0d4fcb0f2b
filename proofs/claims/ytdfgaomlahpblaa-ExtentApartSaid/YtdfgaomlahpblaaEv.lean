/- The document's map claims, gives, forks: walked. -/
import Derived.Test.YtdfgaomlahpblaaEu
set_option linter.unusedVariables false
set_option linter.unusedSimpArgs false
namespace Go.Proofs.Ytdfgaomlahpblaa.F
open Go.RowKit Go.Proofs.YtdfgaomlahpblaaW.PrintWords

def AllIs (T : List Bool) (a n : Nat) (y : Bool) : Prop := ∀ j, a ≤ j → j < a + n → T.getD j true = y
noncomputable def allB (T : List Bool) (a n : Nat) (y : Bool) : Bool := by classical exact decide (AllIs T a n y)
theorem allB_true {T : List Bool} {a n : Nat} {y : Bool} : allB T a n y = true ↔ AllIs T a n y := by unfold allB; simp
theorem allB_false {T : List Bool} {a n : Nat} {y : Bool} : allB T a n y = false ↔ ¬ AllIs T a n y := by unfold allB; simp
set_option maxRecDepth 20000 in
set_option maxHeartbeats 4000000 in
theorem all_r (b f : Nat) (T : List Bool) (a n : Nat) (y : Bool) (w : World) (hm : EY w b f T) (hT : T.length ≤ 10000) (han : a + n ≤ T.length) :
    Calls Try.prog 47 #[.pointer (some ⟨b, 0, none⟩), .int .i64 a, .int .i64 n, .bool y] w fun e w' => e = .returned (.bool (allB T a n y)) ∧ w' = w := by
  obtain ⟨A, c, hg, hr, hc⟩ := hm
  have c1 : w.cell? ⟨b, 1, none⟩ = some (.slice A T.length c) := by rw [cell_of_row _ _ _ _ _ _ hg]; rfl
  obtain ⟨r, hrr⟩ : ∃ r, allB T a n y = r := ⟨_, rfl⟩
  rw [hrr]
  have HRR := Lib.hid hrr
  have HR := Lib.hid hr
  have n0 : (T.length : Int) ≤ 10000 := by omega
  have n1 : (a : Int) + n ≤ T.length := by omega
  have n2 : (0 : Int) ≤ (a : Int) + n := by omega
  clear hrr hr hg hc
  go_enter Try.func47, Try.ntmps47
  go_wp2_with fail
  go_loop [9] (fun vi => ∃ i : Nat, a ≤ i ∧ i ≤ a + n ∧ vi = .int .i64 i ∧ AllIs T a (i - a) y) (fun vi => a + n - (intOf vi).toNat)
  case atStart => exact ⟨a, by omega, by omega, rfl, fun j h1 h2 => by omega⟩
  case round =>
    obtain ⟨i, h1, h2, rfl, hall⟩ := hrel
    have HALL := Lib.hid hall
    clear hall
    by_cases hlt : i < a + n
    · have hd : decide ((i : Int) < (a : Int) + n) = true := decide_eq_true (by omega)
      obtain ⟨g, o, e, a1⟩ := HR.out.at i (by omega)
      subst e
      have i0 : (0 : Int) ≤ (i : Int) := by omega
      have i1 : (i : Int) < (T.length : Int) := by omega
      obtain ⟨z, hz⟩ : ∃ z, T.getD i true = z := ⟨_, rfl⟩
      rw [hz] at a1
      by_cases hzy : z = y
      · subst hzy
        have hd2 : (z != z) = false := by simp
        have hnx : AllIs T a (i + 1 - a) z := fun j g1 g2 => by
          by_cases e : j = i
          · subst e; exact hz
          · exact HALL.out j g1 (by omega)
        have HNX := Lib.hid hnx
        clear hz hnx hd2
        cases z
        · go_wp2_with fail
          exact ⟨⟨i + 1, by omega, by omega, by go_num, HNX.out⟩, by simp [intOf]; omega⟩
        · go_wp2_with fail
          exact ⟨⟨i + 1, by omega, by omega, by go_num, HNX.out⟩, by simp [intOf]; omega⟩
      · have hd2 : (z != y) = true := by simpa using hzy
        have hrf : r = false := by rw [← HRR.out]; exact allB_false.2 (fun h => hzy (by rw [← hz]; exact h i h1 hlt))
        have HRF := Lib.hid hrf
        clear hz hrf hd2
        cases z <;> cases y
        · exact absurd rfl hzy
        · go_wp2_with fail
          go_ret
          rw [HRF.out]
          exact ⟨rfl, rfl⟩
        · go_wp2_with fail
          go_ret
          rw [HRF.out]
          exact ⟨rfl, rfl⟩
        · exact absurd rfl hzy
    · have hd : decide ((i : Int) < (a : Int) + n) = false := decide_eq_false (by omega)
      have hrt : r = true := by rw [← HRR.out]; exact allB_true.2 (fun j g1 g2 => HALL.out j g1 (by omega))
      have HRT := Lib.hid hrt
      clear hrt
      go_wp2_with fail
      go_ret
      rw [HRT.out]
      exact ⟨rfl, rfl⟩
/-- What the document's Claim and Give answer, and what is left. -/
noncomputable def claimR (f : Nat) (T : List Bool) (a n : Int) : Int × List Bool :=
  if withinB f (f + T.length) a n = false then (2, T) else if allB T (a - f).toNat n.toNat false = false then (10, T) else (0, setT T (a - f).toNat n.toNat true)
noncomputable def giveR (f : Nat) (T : List Bool) (a n : Int) : Int × List Bool :=
  if withinB f (f + T.length) a n = false then (2, T) else if allB T (a - f).toNat n.toNat true = false then (9, T) else (0, setT T (a - f).toNat n.toNat false)
def ErrAnsR (b f : Nat) (x : Int × List Bool) (w : World) (e : Ending) (w' : World) : Prop := e = .returned (.int .i64 x.1) ∧ EY w' b f x.2 ∧ Gr (fun k => k = b) w w'
theorem within_yes' {f t : Nat} {a n : Int} (h : withinB f t a n = true) : ∃ x m : Nat, a = ((f + x : Nat) : Int) ∧ n = m ∧ 0 < m ∧ f + x + m ≤ t := by
  have h := of_decide_eq_true h
  exact ⟨(a - f).toNat, n.toNat, by omega, by omega, by omega, by omega⟩
set_option maxRecDepth 20000 in
set_option maxHeartbeats 4000000 in
theorem Claim_r (b f : Nat) (T : List Bool) (a n : Int) (w : World) (hm : EY w b f T) (hT : T.length ≤ 10000) (hf : f ≤ 10000) (ha : -9223372036854775808 ≤ a ∧ a ≤ 9223372036854775807) :
    Calls Try.prog 38 #[.pointer (some ⟨b, 0, none⟩), .agg #[.int .i64 a, .int .i64 n]] w (ErrAnsR b f (claimR f T a n) w) := by
  have hb := hm.lt
  have hbox : Below w.heap.size w (w.alloc (.cells #[.int .i64 a, .int .i64 n] 38)) := (Below.refl _ _).alloc (Nat.le_refl _) _
  have hgn : (w.alloc (.cells #[.int .i64 a, .int .i64 n] 38)).heap[w.heap.size]? = some (.cells #[.int .i64 a, .int .i64 n] 38 (0, 0)) := heap_alloc_new w _
  have hm1 := hm.below hbox
  obtain ⟨W1, hW1⟩ : ∃ W1, w.alloc (.cells #[.int .i64 a, .int .i64 n] 38) = W1 := ⟨_, rfl⟩
  rw [hW1] at hbox hgn hm1
  have hs1 : W1.heap.size = w.heap.size + 1 := by rw [← hW1]; simp
  have k0 : W1.cell? ⟨w.heap.size, 0, none⟩ = some (.int .i64 a) := by rw [cell_of_row _ _ _ _ _ _ hgn]; rfl
  have k1 : W1.cell? ⟨w.heap.size, 1, none⟩ = some (.int .i64 n) := by rw [cell_of_row _ _ _ _ _ _ hgn]; rfl
  have hmine := mine_r b f T a n W1 hm1 hT hf ha
  have HMI := Lib.hid hmine
  have HW1 := Lib.hid hW1
  have HM1 := Lib.hid hm1
  have HB := Lib.hid hbox
  clear hm hm1 hmine hgn hW1 hbox
  cases hwb : withinB f (f + T.length) a n with
  | false =>
    have he : claimR f T a n = (2, T) := if_pos hwb
    rw [he]
    rw [hwb] at HMI
    clear he hwb
    go_enter Try.func38, Try.ntmps38
    go_wp2_with (rw [HW1.out])
    refine HMI.out.mono ?_
    rintro e w2 ⟨x, rfl, _, hb2⟩
    have HB2 := Lib.hid hb2
    clear hb2
    go_wp2_with fail
    go_ret
    exact ⟨rfl, HM1.out.below HB2.out, Gr.of_below _ (HB.out.trans (HB2.out.mono (by omega)))⟩
  | true =>
    obtain ⟨x, m, hax, rfl, hm0, hxm⟩ := within_yes' hwb
    rw [hwb] at HMI
    have hF : claimR f T a (m : Int) = if allB T x m false = false then (10, T) else (0, setT T x m true) := by
      unfold claimR
      rw [if_neg (by rw [hwb]; simp), show (a - f).toNat = x by omega, Int.toNat_natCast]
    rw [hF]
    have hall := fun W (h : EY W b f T) => all_r b f T x m false W h hT (by omega)
    have hset := fun W (h : EY W b f T) => set_r b f T x m true W h hT (by omega) (by omega)
    have hax2 : ((x : Nat) : Int) = a - f := by omega
    simp only [hax2] at hall hset
    have HALL := Lib.hid hall
    have HSET := Lib.hid hset
    have HAX := Lib.hid hax
    clear hwb hF hall hset hax hax2
    obtain ⟨r, hr⟩ : ∃ r, allB T x m false = r := ⟨_, rfl⟩
    rw [hr] at HALL ⊢
    clear hr
    cases r with
    | false =>
      rw [if_pos rfl]
      go_enter Try.func38, Try.ntmps38
      go_wp2_with (rw [HW1.out])
      refine HMI.out.mono ?_
      rintro e w2 ⟨z, rfl, hz, hb2⟩
      have hz := hz rfl
      subst hz
      have k12 : w2.cell? ⟨w.heap.size, 1, none⟩ = some (.int .i64 (m : Nat)) := (hb2.cell (p := ⟨w.heap.size, 1, none⟩) (by show w.heap.size < _; omega)).trans k1
      have HB2 := Lib.hid hb2
      clear hb2 k0 k1
      go_wp2_with fail
      refine (HALL.out w2 (HM1.out.below HB2.out)).mono ?_
      rintro e w3 ⟨rfl, rfl⟩
      go_wp2_with fail
      go_ret
      exact ⟨rfl, HM1.out.below HB2.out, Gr.of_below _ (HB.out.trans (HB2.out.mono (by omega)))⟩
    | true =>
      rw [if_neg (by simp)]
      go_enter Try.func38, Try.ntmps38
      go_wp2_with (rw [HW1.out])
      refine HMI.out.mono ?_
      rintro e w2 ⟨z, rfl, hz, hb2⟩
      have hz := hz rfl
      subst hz
      have k12 : w2.cell? ⟨w.heap.size, 1, none⟩ = some (.int .i64 (m : Nat)) := (hb2.cell (p := ⟨w.heap.size, 1, none⟩) (by show w.heap.size < _; omega)).trans k1
      have HB2 := Lib.hid hb2
      clear hb2 k0 k1
      go_wp2_with fail
      refine (HALL.out w2 (HM1.out.below HB2.out)).mono ?_
      rintro e w3 ⟨rfl, rfl⟩
      go_wp2_with fail
      refine (HSET.out _ (HM1.out.below HB2.out)).mono ?_
      rintro e w4 ⟨rfl, hey4, hg4⟩
      have HEY4 := Lib.hid hey4
      have HG4 := Lib.hid ((Gr.of_below (fun k => k = b) (HB.out.trans (HB2.out.mono (by omega)))).trans hg4 (fun _ _ h => h))
      clear hey4 hg4
      go_wp2_with fail
      go_ret
      exact ⟨rfl, HEY4.out, HG4.out⟩
set_option maxRecDepth 20000 in
set_option maxHeartbeats 4000000 in
theorem Give_r (b f : Nat) (T : List Bool) (a n : Int) (w : World) (hm : EY w b f T) (hT : T.length ≤ 10000) (hf : f ≤ 10000) (ha : -9223372036854775808 ≤ a ∧ a ≤ 9223372036854775807) :
    Calls Try.prog 39 #[.pointer (some ⟨b, 0, none⟩), .agg #[.int .i64 a, .int .i64 n]] w (ErrAnsR b f (giveR f T a n) w) := by
  have hb := hm.lt
  have hbox : Below w.heap.size w (w.alloc (.cells #[.int .i64 a, .int .i64 n] 38)) := (Below.refl _ _).alloc (Nat.le_refl _) _
  have hgn : (w.alloc (.cells #[.int .i64 a, .int .i64 n] 38)).heap[w.heap.size]? = some (.cells #[.int .i64 a, .int .i64 n] 38 (0, 0)) := heap_alloc_new w _
  have hm1 := hm.below hbox
  obtain ⟨W1, hW1⟩ : ∃ W1, w.alloc (.cells #[.int .i64 a, .int .i64 n] 38) = W1 := ⟨_, rfl⟩
  rw [hW1] at hbox hgn hm1
  have hs1 : W1.heap.size = w.heap.size + 1 := by rw [← hW1]; simp
  have k0 : W1.cell? ⟨w.heap.size, 0, none⟩ = some (.int .i64 a) := by rw [cell_of_row _ _ _ _ _ _ hgn]; rfl
  have k1 : W1.cell? ⟨w.heap.size, 1, none⟩ = some (.int .i64 n) := by rw [cell_of_row _ _ _ _ _ _ hgn]; rfl
  have hmine := mine_r b f T a n W1 hm1 hT hf ha
  have HMI := Lib.hid hmine
  have HW1 := Lib.hid hW1
  have HM1 := Lib.hid hm1
  have HB := Lib.hid hbox
  clear hm hm1 hmine hgn hW1 hbox
  cases hwb : withinB f (f + T.length) a n with
  | false =>
    have he : giveR f T a n = (2, T) := if_pos hwb
    rw [he]
    rw [hwb] at HMI
    clear he hwb
    go_enter Try.func39, Try.ntmps39
    go_wp2_with (rw [HW1.out])
    refine HMI.out.mono ?_
    rintro e w2 ⟨x, rfl, _, hb2⟩
    have HB2 := Lib.hid hb2
    clear hb2
    go_wp2_with fail
    go_ret
    exact ⟨rfl, HM1.out.below HB2.out, Gr.of_below _ (HB.out.trans (HB2.out.mono (by omega)))⟩
  | true =>
    obtain ⟨x, m, hax, rfl, hm0, hxm⟩ := within_yes' hwb
    rw [hwb] at HMI
    have hF : giveR f T a (m : Int) = if allB T x m true = false then (9, T) else (0, setT T x m false) := by
      unfold giveR
      rw [if_neg (by rw [hwb]; simp), show (a - f).toNat = x by omega, Int.toNat_natCast]
    rw [hF]
    have hall := fun W (h : EY W b f T) => all_r b f T x m true W h hT (by omega)
    have hset := fun W (h : EY W b f T) => set_r b f T x m false W h hT (by omega) (by omega)
    have hax2 : ((x : Nat) : Int) = a - f := by omega
    simp only [hax2] at hall hset
    have HALL := Lib.hid hall
    have HSET := Lib.hid hset
    have HAX := Lib.hid hax
    clear hwb hF hall hset hax hax2
    obtain ⟨r, hr⟩ : ∃ r, allB T x m true = r := ⟨_, rfl⟩
    rw [hr] at HALL ⊢
    clear hr
    cases r with
    | false =>
      rw [if_pos rfl]
      go_enter Try.func39, Try.ntmps39
      go_wp2_with (rw [HW1.out])
      refine HMI.out.mono ?_
      rintro e w2 ⟨z, rfl, hz, hb2⟩
      have hz := hz rfl
      subst hz
      have k12 : w2.cell? ⟨w.heap.size, 1, none⟩ = some (.int .i64 (m : Nat)) := (hb2.cell (p := ⟨w.heap.size, 1, none⟩) (by show w.heap.size < _; omega)).trans k1
      have HB2 := Lib.hid hb2
      clear hb2 k0 k1
      go_wp2_with fail
      refine (HALL.out w2 (HM1.out.below HB2.out)).mono ?_
      rintro e w3 ⟨rfl, rfl⟩
      go_wp2_with fail
      go_ret
      exact ⟨rfl, HM1.out.below HB2.out, Gr.of_below _ (HB.out.trans (HB2.out.mono (by omega)))⟩
    | true =>
      rw [if_neg (by simp)]
      go_enter Try.func39, Try.ntmps39
      go_wp2_with (rw [HW1.out])
      refine HMI.out.mono ?_
      rintro e w2 ⟨z, rfl, hz, hb2⟩
      have hz := hz rfl
      subst hz
      have k12 : w2.cell? ⟨w.heap.size, 1, none⟩ = some (.int .i64 (m : Nat)) := (hb2.cell (p := ⟨w.heap.size, 1, none⟩) (by show w.heap.size < _; omega)).trans k1
      have HB2 := Lib.hid hb2
      clear hb2 k0 k1
      go_wp2_with fail
      refine (HALL.out w2 (HM1.out.below HB2.out)).mono ?_
      rintro e w3 ⟨rfl, rfl⟩
      go_wp2_with fail
      refine (HSET.out _ (HM1.out.below HB2.out)).mono ?_
      rintro e w4 ⟨rfl, hey4, hg4⟩
      have HEY4 := Lib.hid hey4
      have HG4 := Lib.hid ((Gr.of_below (fun k => k = b) (HB.out.trans (HB2.out.mono (by omega)))).trans hg4 (fun _ _ h => h))
      clear hey4 hg4
      go_wp2_with fail
      go_ret
      exact ⟨rfl, HEY4.out, HG4.out⟩
theorem Fork_r (b f : Nat) (T : List Bool) (w : World) (hm : EY w b f T) :
    Calls Try.prog 20 #[.pointer (some ⟨b, 0, none⟩)] w fun e w' => ∃ b', e = .returned (.pointer (some ⟨b', 0, none⟩)) ∧ w.heap.size ≤ b' ∧ EY w' b' f T ∧ Below w.heap.size w w' := by
  have hb := hm.lt
  obtain ⟨A, c, hg, hr, hc⟩ := hm
  have c0 : w.cell? ⟨b, 0, none⟩ = some (.int .i64 (f : Nat)) := by rw [cell_of_row _ _ _ _ _ _ hg]; rfl
  have c1 : w.cell? ⟨b, 1, none⟩ = some (.slice A T.length c) := by rw [cell_of_row _ _ _ _ _ _ hg]; rfl
  have hba : Below w.heap.size w (w.alloc (.cells #[.int .i64 (f : Nat), .slice A T.length c] 71)) := (Below.refl _ _).alloc (Nat.le_refl _) _
  have hey : EY (w.alloc (.cells #[.int .i64 (f : Nat), .slice A T.length c] 71)) w.heap.size f T := ⟨A, c, heap_alloc_new w _, hr.move (fun g cs x hh => hba.block g (Array.getElem?_eq_some_iff.1 hh).1), hc⟩
  have HEY := Lib.hid hey
  have HBA := Lib.hid hba
  clear hg hr hc hba hey
  go_enter Try.func20, Try.ntmps20
  go_wp2_with fail
  go_ret
  exact ⟨_, rfl, Nat.le_refl _, HEY.out, HBA.out⟩
end Go.Proofs.Ytdfgaomlahpblaa.F
