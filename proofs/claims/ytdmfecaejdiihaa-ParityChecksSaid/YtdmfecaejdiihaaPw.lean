/- Weights, walked. -/
import Derived.Test.YtdmfecaejdiihaaPa
import Derived.Deep.DeepMust
namespace Go.Proofs.Ytdmfecaejdiihaa.F
open Go.RowKit Go.Proofs.YtdmfecaejdiihaaW.PrintWords

def weightAt (l : List Nat) (a : Nat) (i : Nat) : Nat := gm (pbut (fun q => a ^^^ q) i l 0 1) (ginv (pbut (fun q => l.getD i 0 ^^^ q) i l 0 1))
def weights (l : List Nat) (a : Nat) : List Nat := (List.range l.length).map (weightAt l a)

theorem Weights_c (A : Option Addr) (c : Nat) (l : List Nat) (a : Nat) (w : World) (hr : RN .u8 w A l) (hl : ∀ x ∈ l, x < 256) (ha : a < 256) (hle : l.length ≤ 256) (hnd : l.Nodup) :
    Calls Try.prog 36 #[.slice A l.length c, .int .u8 a] w fun e w' => ∃ v, e = .returned (.tuple #[v, .int .i64 0]) ∧ OwnN .u8 5 w' w.heap.size v (weights l a) ∧ Below w.heap.size w w' := by
  have hm := hr.max
  have hmf : ∀ (fn : Fn) (first cap : Array Value) (w : World), (Instr.makeFunc fn first cap).run Try.prog w = .ok (.func fn first cap) w := fun _ _ _ _ => rfl
  have hd0 : decide ((256 : Int) < l.length) = false := by simp; omega
  have HN := Lib.hid hnd
  clear hnd
  go_enter Try.func36, Try.ntmps36
  go_wp2_with fail
  have hB0 : Below w.heap.size w (w.alloc (.cells #[.int .u8 a] 5)) := (Below.refl _ _).alloc (Nat.le_refl _) _
  refine (twice_c _ _ l _ (hr.below hB0) hl).mono ?_
  rintro e w1 ⟨rfl, hb1⟩
  rw [decide_eq_true HN.out]
  have hc1 := (hb1.cell (p := ⟨w.heap.size, 0, none⟩) (by simp)).trans (show (w.alloc (.cells #[.int .u8 a] 5)).cell? ⟨w.heap.size, 0, none⟩ = some (.int .u8 a) by simp)
  have hB1 : Below w.heap.size w w1 := hB0.trans (hb1.mono (by simp))
  have hs1 : w.heap.size < w1.heap.size := by have := hb1.size; simp at this; omega
  clear hb1 hB0
  go_wp2_with fail
  go_loopw [6, 20] (fun vo vi W => ∃ i : Nat, i ≤ l.length ∧ vi = .int .i64 i ∧ OwnN .u8 5 W w1.heap.size vo ((List.range i).map (weightAt l a)) ∧ Below w1.heap.size w1 W) (fun _ vi _ => l.length - (intOf vi).toNat)
  case atStart => exact ⟨0, by omega, rfl, OwnN.nil _ _ _ _, Below.refl _ _⟩
  case round =>
    obtain ⟨i, hi, rfl, hown, hbl⟩ := hrel
    have HO := Lib.hid hown
    clear hown
    by_cases hlt : i < l.length
    · have hd : decide ((i : Int) < l.length) = true := by simp; omega
      obtain ⟨ad, e, hc⟩ := ((hr.below hB1).below hbl).at i hlt
      subst e
      obtain ⟨y, hy⟩ : ∃ y, l[i] = y := ⟨_, rfl⟩
      rw [hy] at hc
      have ly : y < 256 := by rw [← hy]; exact hl _ (List.getElem_mem _)
      have HY := Lib.hid hy
      clear hy
      have hcr := (hbl.cell (p := ⟨w.heap.size, 0, none⟩) hs1).trans hc1
      go_wp2_with fail
      have hB2 : Below wr.heap.size wr (wr.alloc (.cells #[.int .u8 y] 5)) := (Below.refl _ _).alloc (Nat.le_refl _) _
      have hr2 : RN .u8 (wr.alloc (.cells #[.int .u8 y] 5)) (some ad) l := ((hr.below hB1).below hbl).below hB2
      have hf : ∀ z x, z < 256 → x < 256 → z ^^^ x < 256 := fun z x hz hx => xor_lt hz hx
      have hlt2 : w.heap.size < wr.heap.size := by have := hbl.size; omega
      have hcr2 : (wr.alloc (.cells #[.int .u8 y] 5)).cell? ⟨w.heap.size, 0, none⟩ = some (.int .u8 a) := (hB2.cell (p := ⟨w.heap.size, 0, none⟩) hlt2).trans hcr
      have hcy2 : (wr.alloc (.cells #[.int .u8 y] 5)).cell? ⟨wr.heap.size, 0, none⟩ = some (.int .u8 y) := by simp
      have HF := Lib.hid hf
      have HCR := Lib.hid hcr2
      have HCY := Lib.hid hcy2
      clear hf hcr2 hcy2
      refine (product_c _ _ l i _ _ (fun q => a ^^^ q) _ hr2 hl (fun x hx => HF.out a x ha hx) enters1 (fun n x hx => closure1 _ a x _ HCR.out ha hx)).mono ?_
      rintro e w2 ⟨rfl, n2, rfl⟩
      go_wp2_with fail
      refine (product_c _ _ l i _ _ (fun q => y ^^^ q) _ (hr2.drewN _) hl (fun x hx => HF.out y x ly hx) enters2 (fun n x hx => closure2 _ y x _ HCY.out ly hx)).mono ?_
      rintro e w3 ⟨rfl, n3, rfl⟩
      have l1 := pbut_lt (fun q => a ^^^ q) i l 0 (o := 1) (by omega)
      have l2 := pbut_lt (fun q => y ^^^ q) i l 0 (o := 1) (by omega)
      obtain ⟨p1, hp1⟩ : ∃ z, pbut (fun q => a ^^^ q) i l 0 1 = z := ⟨_, rfl⟩
      obtain ⟨p2, hp2⟩ : ∃ z, pbut (fun q => y ^^^ q) i l 0 1 = z := ⟨_, rfl⟩
      rw [hp1] at l1 ⊢
      rw [hp2] at l2 ⊢
      have HP1 := Lib.hid hp1
      have HP2 := Lib.hid hp2
      clear hp1 hp2
      go_wp2_with fail
      refine (Inv_c p2 l2 _).mono ?_
      rintro e w4 ⟨rfl, n4, rfl⟩
      go_wp2_with fail
      have hw : weightAt l a i = gm p1 (ginv p2) := by
        unfold weightAt
        rw [HP1.out, show l.getD i 0 = y by rw [List.getD_eq_getElem?_getD, List.getElem?_eq_getElem hlt]; exact HY.out, HP2.out]
      have HW := Lib.hid hw
      clear hw
      refine (Mul_c p1 (ginv p2) l1 (ginv_lt l2) _).mono ?_
      rintro e w5 ⟨rfl, n5, rfl⟩
      have hbz : ∀ n, Below wr.heap.size wr ((wr.alloc (.cells #[.int .u8 y] 5)).drewN n) := fun n => pw_below_drewN hB2 n
      have HBZ := Lib.hid hbz
      clear hbz
      go_wp2_with (at_builtin; go_must (refine append_N (w0 := w1) w1.heap.size rfl _ _ 29 5 .u8 1 rfl Try.underlying29 info_u8 (by decide) _ ((List.range i).map (weightAt l a)) _ rfl _ rfl (by simp) (HO.out.kept (HBZ.out _)) (hbl.trans ((HBZ.out _).mono hbl.size)) (by have := hbl.size; simp; omega) (by simp; omega) ?_); intro v1 w6 ho6 hb6)
      refine ⟨⟨i + 1, by omega, by go_num, ?_, hb6⟩, by simp [intOf]; omega⟩
      rw [List.range_succ, List.map_append, List.map_singleton, HW.out]
      exact ho6
    · have hd : decide ((i : Int) < l.length) = false := by simp; omega
      have hi' : i = l.length := by omega
      go_wp2
      go_ret2
      subst hi'
      exact ⟨_, rfl, HO.out.lower hB1.size, hB1.trans (hbl.mono hB1.size)⟩

theorem Weights_long (A : Option Addr) (c : Nat) (l : List Nat) (a : Nat) (w : World) (hr : RN .u8 w A l) (hle : 256 < l.length) :
    Calls Try.prog 36 #[.slice A l.length c, .int .u8 a] w fun e w' => e = .returned (.tuple #[.slice none 0 0, .int .i64 6]) ∧ Below w.heap.size w w' := by
  have hm := hr.max
  have hd0 : decide ((256 : Int) < l.length) = true := by simp; omega
  go_enter Try.func36, Try.ntmps36
  go_wp2_with fail
  go_ret2
  exact ⟨rfl, (Below.refl _ _).alloc (Nat.le_refl _) _⟩
theorem Weights_twice (A : Option Addr) (c : Nat) (l : List Nat) (a : Nat) (w : World) (hr : RN .u8 w A l) (hl : ∀ x ∈ l, x < 256) (hle : l.length ≤ 256) (hnd : ¬ l.Nodup) :
    Calls Try.prog 36 #[.slice A l.length c, .int .u8 a] w fun e w' => e = .returned (.tuple #[.slice none 0 0, .int .i64 2]) ∧ Below w.heap.size w w' := by
  have hm := hr.max
  have hd0 : decide ((256 : Int) < l.length) = false := by simp; omega
  have HN := Lib.hid hnd
  clear hnd
  go_enter Try.func36, Try.ntmps36
  go_wp2_with fail
  have hB0 : Below w.heap.size w (w.alloc (.cells #[.int .u8 a] 5)) := (Below.refl _ _).alloc (Nat.le_refl _) _
  refine (twice_c _ _ l _ (hr.below hB0) hl).mono ?_
  rintro e w1 ⟨rfl, hb1⟩
  rw [decide_eq_false HN.out]
  have hB1 : Below w.heap.size w w1 := hB0.trans (hb1.mono (by simp))
  clear hb1 hB0
  go_wp2_with fail
  go_ret2
  exact ⟨rfl, hB1⟩
end Go.Proofs.Ytdmfecaejdiihaa.F
