/- The law FieldWeights, walked. -/
import Derived.Test.YtpmjkmcehhojhaaFl
namespace Go.Proofs.Ytpmjkmcehhojhaa.F
open Go.RowKit Go.Proofs.YtpmjkmcehhojhaaW.PrintWords

theorem ginv_gm {a b : Nat} (ha : a < 256) (hb : b < 256) : ginv (gm a b) = gm (ginv a) (ginv b) := by
  by_cases h1 : a = 0
  · subst h1; rw [gm_zero_left]; show 0 = gm 0 _; rw [gm_zero_left]
  by_cases h2 : b = 0
  · subst h2; rw [gm_zero_right]; show 0 = gm _ 0; rw [gm_zero_right]
  have la := ginv_lt ha
  have lb := ginv_lt hb
  refine (ginv_unique (gm_lt ha b) (gm_lt la _) ?_).symm
  rw [gm_comm la lb, gm_assoc (gm_lt ha b) lb la, ← gm_assoc ha hb lb, gm_ginv hb h2, gm_one ha, gm_ginv ha h1]
theorem pbut_quo (f g : Nat → Nat) (i : Nat) (hf : ∀ x, x < 256 → f x < 256) (hg : ∀ x, x < 256 → g x < 256) : ∀ (l : List Nat) (k o1 o2 : Nat), (∀ x ∈ l, x < 256) → o1 < 256 → o2 < 256 →
    gm (pbut f i l k o1) (ginv (pbut g i l k o2)) = pbut (fun q => gm (f q) (ginv (g q))) i l k (gm o1 (ginv o2))
  | [], _, _, _, _, _, _ => rfl
  | x :: l, k, o1, o2, hl, h1, h2 => by
    have hx := hl x (by simp)
    have lf := hf x hx
    have lg := hg x hx
    simp only [pbut]
    rw [pbut_quo f g i hf hg l (k + 1) _ _ (fun y hy => hl y (by simp [hy])) (by split; exact h1; exact gm_lt h1 _) (by split; exact h2; exact gm_lt h2 _)]
    congr 1
    by_cases e : k = i
    · simp [e]
    · simp only [if_neg e]
      have i2 := ginv_lt h2
      have ig := ginv_lt lg
      rw [ginv_gm h2 lg, ← gm_assoc h1 lf (gm_lt i2 _), gm_assoc lf i2 ig, gm_comm lf i2, ← gm_assoc i2 lf ig, gm_assoc h1 i2 (gm_lt lf _)]
theorem weights_eq (l : List Nat) (a : Nat) (hl : ∀ x ∈ l, x < 256) (ha : a < 256) : (List.range l.length).map (refWeightAt l a) = weights l a := by
  unfold weights
  refine List.map_congr_left fun i hi => ?_
  have hi' : i < l.length := List.mem_range.1 hi
  have hy : l.getD i 0 < 256 := by rw [List.getD_eq_getElem?_getD, List.getElem?_eq_getElem hi']; exact hl _ (List.getElem_mem _)
  have h1 : gm 1 (ginv 1) = 1 := by decide +kernel
  have := pbut_quo (fun q => a ^^^ q) (fun q => l.getD i 0 ^^^ q) i (fun x hx => xor_lt ha hx) (fun x hx => xor_lt hy hx) l 0 1 1 hl (by omega) (by omega)
  rw [h1] at this
  exact this.symm

theorem FieldWeights_short (A : Option Addr) (c : Nat) (l : List Nat) (a : Nat) (w : World) (hr : RN .u8 w A l) (hl : ∀ x ∈ l, x < 256) (ha : a < 256) (hle : l.length ≤ 256) :
    Calls Try.prog 4 #[.slice A l.length c, .int .u8 a] w fun e w' => e = .returned (.bool true) ∧ Below w.heap.size w w' := by
  have hm := hr.max
  have hd0 : decide ((300 : Int) < l.length) = false := by simp; omega
  by_cases hn : l.Nodup
  · have HN := Lib.hid hn
    clear hn
    go_enter Try.func4, Try.ntmps4
    go_wp2_with fail
    refine (Weights_c _ _ l a _ hr hl ha hle HN.out).mono ?_
    rintro e w1 ⟨v1, rfl, ho1, hb1⟩
    go_wp2_with fail
    refine (refWeights_c _ _ l a _ (hr.below hb1) hl ha hle).mono ?_
    rintro e w2 (⟨_, v2, rfl, ho2, hb2⟩ | ⟨hno, _⟩)
    · rw [weights_eq l a hl ha] at ho2
      have hB2 := hb1.trans (hb2.mono hb1.size)
      obtain ⟨A1, c1, rfl, hc1, hr1⟩ := (ho1.kept hb2).reads
      obtain ⟨A2, c2, rfl, hc2, hr2⟩ := ho2.reads
      clear ho1 ho2 hb1 hb2
      obtain ⟨z, hz⟩ : ∃ z, weights l a = z := ⟨_, rfl⟩
      rw [hz] at hr1 hr2 hc1 hc2 ⊢
      clear hz
      go_wp2_with fail
      refine (live_c _).mono ?_
      rintro e w3 ⟨rfl, hB⟩
      have s1 := RN.string (c := c1) Try.underlying27 Try.underlying5 Try.underlying9 (hr1.below hB)
      have s2 := RN.string (c := c2) Try.underlying27 Try.underlying5 Try.underlying9 (hr2.below hB)
      clear hr1 hr2
      go_wp2_with fail
      go_ret
      exact ⟨rfl, hB2.trans (hB.mono hB2.size)⟩
    · exact absurd HN.out hno
  · have HN := Lib.hid hn
    clear hn
    go_enter Try.func4, Try.ntmps4
    go_wp2_with fail
    refine (Weights_twice _ _ l a _ hr hl hle HN.out).mono ?_
    rintro e w1 ⟨rfl, hb1⟩
    go_wp2_with fail
    refine (refWeights_c _ _ l a _ (hr.below hb1) hl ha hle).mono ?_
    rintro e w2 (⟨hno, _⟩ | ⟨_, rfl, hb2⟩)
    · exact absurd hno HN.out
    · have hB2 := hb1.trans (hb2.mono hb1.size)
      go_wp2_with fail
      refine (live_c _).mono ?_
      rintro e w3 ⟨rfl, hB⟩
      have s1 := RN.string (c := 0) Try.underlying27 Try.underlying5 Try.underlying9 (RN.nil .u8 w3)
      replace s1 : (convert 27 9 (.slice none 0 0)).run Try.prog w3 = .ok (.string (strN [])) w3 := s1
      go_wp2_with fail
      go_ret
      exact ⟨rfl, hB2.trans (hB.mono hB2.size)⟩

theorem FieldWeights_walk (A : Option Addr) (c : Nat) (l : List Nat) (a : Nat) (w : World) (hr : RN .u8 w A l) (hl : ∀ x ∈ l, x < 256) (hc : l.length ≤ c) (ha : a < 256) :
    Calls Try.prog 4 #[.slice A l.length c, .int .u8 a] w fun e w' => e = .returned (.bool true) ∧ Below w.heap.size w w' := by
  by_cases hle : l.length ≤ 256
  · exact FieldWeights_short A c l a w hr hl ha hle
  · have hm := hr.max
    obtain ⟨m, hm1, hm2⟩ : ∃ m : List Nat, 256 < m.length ∧ m = (if 300 < l.length then l.take 300 else l) := ⟨if 300 < l.length then l.take 300 else l, by
      split
      · rw [List.length_take]; omega
      · omega, rfl⟩
    have hrm : RN .u8 w A m := by
      rw [hm2]; split
      · exact hr.take 300 (by omega)
      · exact hr
    by_cases h3 : 300 < l.length
    · have hd0 : decide ((300 : Int) < l.length) = true := by simp; omega
      have hml : m.length = 300 := by rw [hm2, if_pos h3]; simp; omega
      have HL := Lib.hid hml
      clear hm2 hml
      go_enter Try.func4, Try.ntmps4
      go_wp2_with fail
      rw [← HL.out]
      refine (Weights_long _ _ m a _ hrm hm1).mono ?_
      rintro e w1 ⟨rfl, hb1⟩
      rw [HL.out]
      go_wp2_with fail
      rw [← HL.out]
      refine (refWeights_long _ _ m a _ (hrm.below hb1) hm1).mono ?_
      rintro e w2 ⟨rfl, hb2⟩
      have hB2 := hb1.trans (hb2.mono hb1.size)
      go_wp2_with fail
      refine (live_c _).mono ?_
      rintro e w3 ⟨rfl, hB⟩
      have s1 := RN.string (c := 0) Try.underlying27 Try.underlying5 Try.underlying9 (RN.nil .u8 w3)
      replace s1 : (convert 27 9 (.slice none 0 0)).run Try.prog w3 = .ok (.string (strN [])) w3 := s1
      go_wp2_with fail
      go_ret
      exact ⟨rfl, hB2.trans (hB.mono hB2.size)⟩
    · have hd0 : decide ((300 : Int) < l.length) = false := by simp; omega
      rw [if_neg h3] at hm2
      subst hm2
      go_enter Try.func4, Try.ntmps4
      go_wp2_with fail
      refine (Weights_long _ _ m a _ hrm hm1).mono ?_
      rintro e w1 ⟨rfl, hb1⟩
      go_wp2_with fail
      refine (refWeights_long _ _ m a _ (hrm.below hb1) hm1).mono ?_
      rintro e w2 ⟨rfl, hb2⟩
      have hB2 := hb1.trans (hb2.mono hb1.size)
      go_wp2_with fail
      refine (live_c _).mono ?_
      rintro e w3 ⟨rfl, hB⟩
      have s1 := RN.string (c := 0) Try.underlying27 Try.underlying5 Try.underlying9 (RN.nil .u8 w3)
      replace s1 : (convert 27 9 (.slice none 0 0)).run Try.prog w3 = .ok (.string (strN [])) w3 := s1
      go_wp2_with fail
      go_ret
      exact ⟨rfl, hB2.trans (hB.mono hB2.size)⟩
end Go.Proofs.Ytpmjkmcehhojhaa.F
