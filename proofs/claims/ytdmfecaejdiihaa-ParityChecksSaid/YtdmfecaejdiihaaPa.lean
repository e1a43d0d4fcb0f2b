/- Does a point stand twice; the product of what a function tells of all elements but one: walked. -/
import Derived.Test.YtdmfecaejdiihaaPe
set_option linter.unusedVariables false
set_option linter.unusedSimpArgs false
namespace Go.Proofs.Ytdmfecaejdiihaa.F
open Go.RowKit Go.Proofs.YtdmfecaejdiihaaW.PrintWords

def falses : Array Value := Array.replicate 256 (.bool false)
theorem zero256 : ∀ W : World, Sem.run Try.prog (zeroValue 58) W = .ok (.agg falses) W := fun _ => by kernel_rfl

structure Seen (W : World) (B : Nat) (l : List Nat) : Prop where mk ::
  ex : ∃ cs : Array Value, W.heap[B]? = some (.cells cs 58 (0, 0)) ∧ cs.size = 256 ∧ ∀ j : Nat, j < 256 → cs[j]? = some (.bool (decide (j ∈ l)))
theorem Seen.cell {W : World} {B : Nat} {l : List Nat} (h : Seen W B l) (x : Nat) (h1 : x < 256) : W.cell? ⟨B, x, none⟩ = some (.bool (decide (x ∈ l))) := by
  obtain ⟨cs, hb, hs, hc⟩ := h.ex
  simp [World.cell?, hb, hc x h1]
theorem Seen.free {W : World} {B : Nat} {l : List Nat} (h : Seen W B l) (x : Nat) : W.frozen? ⟨B, x, none⟩ = false := by
  obtain ⟨cs, hb, hs, hc⟩ := h.ex
  simp [World.frozen?, hb]
theorem Seen.start (w : World) : Seen (w.alloc (.cells falses 58)) w.heap.size [] :=
  ⟨falses, heap_alloc_new w _, by simp [falses], fun j hj => by simp [falses, hj]⟩
theorem Seen.set {W : World} {B : Nat} {l : List Nat} (h : Seen W B l) (x : Nat) (h1 : x < 256) : Seen (W.setCell ⟨B, x, none⟩ (.bool true)) B (l ++ [x]) := by
  obtain ⟨cs, hb, hs, hc⟩ := h.ex
  refine ⟨cs.setIfInBounds x (.bool true), ?_, by simpa using hs, fun j hj => ?_⟩
  · simp [World.setCell, Array.getElem?_modify, hb]
  · by_cases e : x = j
    · subst e
      simp [hs, hj]
    · have : ¬ j = x := fun h => e h.symm
      simp [Array.getElem?_setIfInBounds_ne e, hc j hj, this]

theorem twice_c (A0 : Option Addr) (c0 : Nat) (l0 : List Nat) (w : World) (hr0 : RN .u8 w A0 l0) (hb : ∀ x ∈ l0, x < 256) :
    Calls Try.prog 39 #[.slice A0 l0.length c0] w fun e w' => e = .returned (.bool (!decide l0.Nodup)) ∧ Below w.heap.size w w' := by
  have hlm := hr0.max
  have hz := zero256
  go_enter Try.func39, Try.ntmps39
  go_wp2
  go_loopw [8] (fun i W => ∃ k : Nat, k ≤ l0.length ∧ i = .int .i64 k ∧ Seen W w.heap.size (l0.take k) ∧ (l0.take k).Nodup ∧ Below w.heap.size w W) (fun i _ => l0.length - (intOf i).toNat)
  case atStart => exact ⟨0, Nat.zero_le _, rfl, by simpa using Seen.start w, by simp, (Below.refl _ _).alloc (Nat.le_refl _) _⟩
  case round =>
    obtain ⟨k, hk, rfl, hs, hn, hbl⟩ := hrel
    by_cases hlt : k < l0.length
    · obtain ⟨x, hx⟩ : ∃ x, l0[k] = x := ⟨_, rfl⟩
      have hx1 : x < 256 := hx ▸ hb _ (List.getElem_mem hlt)
      obtain ⟨ad, e, hc⟩ := (hr0.below hbl).at k hlt
      subst e
      rw [hx] at hc
      have hcx := hs.cell x hx1
      have hfx := hs.free x
      have HX := Lib.hid hx
      clear hx
      go_wp2
      · have hin : x ∈ l0.take k := by assumption
        go_ret
        refine ⟨?_, hbl⟩
        have : ¬ l0.Nodup := fun h => by
          have h2 : (l0.take (k + 1)).Nodup := h.sublist (List.take_sublist _ _)
          rw [List.take_succ_eq_append_getElem hlt, HX.out, List.nodup_append] at h2
          exact h2.2.2 x hin x (by simp) rfl
        simp [this]
      · have hin : ¬ x ∈ l0.take k := by assumption
        have e1 : l0.take (k + 1) = l0.take k ++ [x] := by rw [List.take_succ_eq_append_getElem hlt, HX.out]
        refine ⟨⟨k + 1, by omega, by go_num, ?_, ?_, hbl.setCell (Nat.le_refl _) _⟩, by simp [intOf]; omega⟩
        · rw [e1]; exact hs.set x hx1
        · rw [e1, List.nodup_append]; exact ⟨hn, by simp, fun a ha b hb' => by simp at hb'; subst hb'; exact fun e => hin (e ▸ ha)⟩
    · go_wp2
      go_ret
      have : l0.take k = l0 := List.take_of_length_le (by omega)
      rw [this] at hn
      exact ⟨by simp [hn], hbl⟩

/-- The product of what a function tells of all elements but one. -/
def pbut (f : Nat → Nat) (but : Nat) : List Nat → Nat → Nat → Nat
  | [], _, o => o
  | x :: l, i, o => pbut f but l (i + 1) (if i = but then o else gm o (f x))
theorem pbut_lt (f : Nat → Nat) (but : Nat) : ∀ (l : List Nat) (i : Nat) {o : Nat}, o < 256 → pbut f but l i o < 256
  | [], _, _, h => h
  | x :: l, i, o, h => pbut_lt f but l (i + 1) (by split; exact h; exact gm_lt h _)

theorem product_c (A : Option Addr) (c : Nat) (l : List Nat) (but : Nat) (g : Nat) (lb : Value) (f : Nat → Nat) (w : World) (hr : RN .u8 w A l) (hl : ∀ x ∈ l, x < 256)
    (hf : ∀ x, x < 256 → f x < 256) (hg : ∀ args (W : World), Sem.run Try.prog (callFunc g args) W = .ok (.enter g args) W)
    (hof : ∀ n x, x < 256 → Calls Try.prog g #[.int .u8 (x : Nat), lb] (w.drewN n) fun e w' => e = .returned (.int .u8 (f x : Nat)) ∧ w' = w.drewN n) :
    Calls Try.prog 40 #[.slice A l.length c, .int .i64 but, .func (.func g) #[] #[lb]] w fun e w' => e = .returned (.int .u8 (pbut f but l 0 1 : Nat)) ∧ ∃ n, w' = w.drewN n := by
  have hm := hr.max
  go_enter Try.func40, Try.ntmps40
  go_wp2
  go_loopw [7, 12] (fun vo vi W => ∃ i o : Nat, i ≤ l.length ∧ o < 256 ∧ vo = .int .u8 o ∧ vi = .int .i64 i ∧ pbut f but (l.drop i) i o = pbut f but l 0 1 ∧ ∃ n, W = w.drewN n) (fun _ vi _ => l.length - (intOf vi).toNat)
  case atStart => exact ⟨0, 1, by omega, by omega, rfl, rfl, by simp, 0, rfl⟩
  case round =>
    obtain ⟨i, o, hi, ho, rfl, rfl, hgx, q, rfl⟩ := hrel
    have HG := Lib.hid hgx
    clear hgx
    by_cases hlt : i < l.length
    · obtain ⟨ad, e, hca⟩ := (hr.drewN q).at i hlt
      subst e
      obtain ⟨y, hy⟩ : ∃ y, l[i] = y := ⟨_, rfl⟩
      rw [hy] at hca
      have ly : y < 256 := by rw [← hy]; exact hl _ (List.getElem_mem _)
      have HY := Lib.hid hy
      clear hy
      have hd1 : decide ((i : Int) < l.length) = true := by simp; omega
      by_cases hb : i = but
      · subst hb
        go_wp2_with fail
        refine ⟨⟨i + 1, o, by omega, ho, rfl, by go_num, ?_, q, rfl⟩, by simp [intOf]; omega⟩
        rw [← HG.out, drop_cons hlt]; simp [pbut]
      · have hne : ((i : Int) != but) = true := by simp; omega
        have HB := Lib.hid hb
        clear hb
        go_wp2_with fail
        refine (hof q y ly).mono ?_
        rintro e w1 ⟨rfl, rfl⟩
        go_wp2_with fail
        refine (Mul_c o (f y) ho (hf y ly) _).mono ?_
        rintro e w1 ⟨rfl, n1, rfl⟩
        go_wp2_with fail
        refine ⟨⟨i + 1, gm o (f y), by omega, gm_lt ho _, rfl, by go_num, ?_, q + n1, by simp only [World.drewN_drewN]⟩, by simp [intOf]; omega⟩
        rw [← HG.out, drop_cons hlt, HY.out]; simp only [pbut, if_neg HB.out]
    · have hd : decide ((i : Int) < l.length) = false := by simp; omega
      have h := HG.out
      rw [List.drop_eq_nil_of_le (by omega)] at h
      have H' := Lib.hid h
      clear h HG
      go_wp2
      go_ret
      exact ⟨by rw [← H'.out]; rfl, q, rfl⟩

theorem enters1 : ∀ args (W : World), Sem.run Try.prog (callFunc 41 args) W = .ok (.enter 41 args) W := fun _ _ => by kernel_rfl
theorem enters2 : ∀ args (W : World), Sem.run Try.prog (callFunc 42 args) W = .ok (.enter 42 args) W := fun _ _ => by kernel_rfl
theorem closure1 (B : Nat) (a x : Nat) (w : World) (hc : w.cell? ⟨B, 0, none⟩ = some (.int .u8 a)) (ha : a < 256) (hx : x < 256) :
    Calls Try.prog 41 #[.int .u8 x, .pointer (some ⟨B, 0, none⟩)] w fun e w' => e = .returned (.int .u8 (a ^^^ x : Nat)) ∧ w' = w := by
  have hb := u8_xor_nat a x ha hx
  go_enter Try.func41, Try.ntmps41
  go_wp2
  go_ret
  exact ⟨rfl, rfl⟩
theorem closure2 (B : Nat) (a x : Nat) (w : World) (hc : w.cell? ⟨B, 0, none⟩ = some (.int .u8 a)) (ha : a < 256) (hx : x < 256) :
    Calls Try.prog 42 #[.int .u8 x, .pointer (some ⟨B, 0, none⟩)] w fun e w' => e = .returned (.int .u8 (a ^^^ x : Nat)) ∧ w' = w := by
  have hb := u8_xor_nat a x ha hx
  go_enter Try.func42, Try.ntmps42
  go_wp2
  go_ret
  exact ⟨rfl, rfl⟩
end Go.Proofs.Ytdmfecaejdiihaa.F
