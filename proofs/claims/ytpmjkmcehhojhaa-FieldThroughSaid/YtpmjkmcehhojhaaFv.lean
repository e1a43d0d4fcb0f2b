/- The reference's weights, walked. -/
import Derived.Test.YtpmjkmcehhojhaaFs
namespace Go.Proofs.Ytpmjkmcehhojhaa.F
open Go.RowKit Go.Proofs.YtpmjkmcehhojhaaW.PrintWords

def refWeightAt (l : List Nat) (a i : Nat) : Nat := pbut (fun q => gm (a ^^^ q) (ginv (l.getD i 0 ^^^ q))) i l 0 1
theorem quiet_same {P : Program} {f : FuncId} {args : Array Value} {w : World} {n : Nat} {v : Value}
    (h : Calls P f args (w.drewN n) fun e w' => e = .returned v ∧ w.drewN n = w') : Calls P f args (w.drewN n) fun e w'' => e = .returned v ∧ ∃ m, w'' = w.drewN m :=
  Calls.quiet_of_same (h.mono fun _ _ h => ⟨h.1, h.2.symm⟩)
theorem nodup_take {l : List Nat} {i : Nat} (hi : i < l.length) (h : (l.take i).Nodup) (hne : ∀ j (hj : j < i), l[i] ≠ l[j]) : (l.take (i + 1)).Nodup := by
  rw [List.take_succ_eq_append_getElem hi, List.nodup_append]
  refine ⟨h, by simp, fun x hx y hy => ?_⟩
  simp at hy; subst hy
  obtain ⟨j, hj, rfl⟩ := List.mem_iff_getElem.1 hx
  simp at hj
  rw [List.getElem_take]
  exact fun e => hne j (by omega) e.symm
theorem not_nodup {l : List Nat} {i j : Nat} (hi : i < l.length) (hj : j < i) (h : l[i] = l[j]) : ¬ l.Nodup := fun hn => by
  have := List.pairwise_iff_getElem.1 hn j i (by omega) hi hj
  exact this h.symm

theorem refWeights_long (A : Option Addr) (c : Nat) (l : List Nat) (a : Nat) (w : World) (hr : RN .u8 w A l) (hle : 256 < l.length) :
    Calls Try.prog 14 #[.slice A l.length c, .int .u8 a] w fun e w' => e = .returned (.tuple #[.slice none 0 0, .int .i64 6]) ∧ Below w.heap.size w w' := by
  have hm := hr.max
  have hd0 : decide ((256 : Int) < l.length) = true := by simp; omega
  go_enter Try.func14, Try.ntmps14
  go_wp2_with fail
  go_ret2
  exact ⟨rfl, Below.refl _ _⟩

theorem refWeights_c (A : Option Addr) (c : Nat) (l : List Nat) (a : Nat) (w : World) (hr : RN .u8 w A l) (hl : ∀ x ∈ l, x < 256) (ha : a < 256) (hle : l.length ≤ 256) :
    Calls Try.prog 14 #[.slice A l.length c, .int .u8 a] w fun e w' =>
      (l.Nodup ∧ ∃ v, e = .returned (.tuple #[v, .int .i64 0]) ∧ OwnN .u8 5 w' w.heap.size v ((List.range l.length).map (refWeightAt l a)) ∧ Below w.heap.size w w') ∨
      (¬ l.Nodup ∧ e = .returned (.tuple #[.slice none 0 0, .int .i64 2]) ∧ Below w.heap.size w w') := by
  have hm := hr.max
  have hd0 : decide ((256 : Int) < l.length) = false := by simp; omega
  go_enter Try.func14, Try.ntmps14
  go_wp2_with fail
  go_loopw [6] (fun vi W => ∃ i : Nat, i ≤ l.length ∧ vi = .int .i64 i ∧ (l.take i).Nodup ∧ Below w.heap.size w W) (fun vi _ => l.length - (intOf vi).toNat)
  case atStart => exact ⟨0, by omega, rfl, by simp, Below.refl _ _⟩
  case round =>
    obtain ⟨i, hi, rfl, hnd, hW⟩ := hrel
    by_cases hlt : i < l.length
    · have hd : decide ((i : Int) < l.length) = true := by simp; omega
      go_wp2_with fail
      obtain ⟨wo, rfl⟩ : ∃ wo : World, wo = wr := ⟨_, rfl⟩
      go_loopw [7] (fun vk W => ∃ k : Nat, k ≤ i ∧ vk = .int .i64 k ∧ (∀ j (hj : j < k) (hk : k ≤ i), l[i] ≠ l[j]) ∧ Below wo.heap.size wo W) (fun vk _ => i - (intOf vk).toNat)
      case atStart => exact ⟨0, by omega, rfl, by simp, Below.refl _ _⟩
      case round =>
        obtain ⟨k, hk, rfl, hne, hW2⟩ := hrel
        have HNE := Lib.hid hne
        clear hne
        by_cases hlk : k < i
        · have hdk : decide ((k : Int) < i) = true := by simp; omega
          obtain ⟨ad, e, hci⟩ := ((hr.below hW).below hW2).atN i hlt
          subst e
          obtain ⟨bd, e, hck⟩ := ((hr.below hW).below hW2).atN k (by omega)
          obtain rfl : ad = bd := Option.some.inj e
          obtain ⟨y, hy⟩ : ∃ y, l[i] = y := ⟨_, rfl⟩
          obtain ⟨z, hz⟩ : ∃ z, l[k]'(by omega) = z := ⟨_, rfl⟩
          rw [hy] at hci
          rw [hz] at hck
          have HY := Lib.hid hy
          have HZ := Lib.hid hz
          clear hy hz e
          by_cases heq : y = z
          · subst heq
            go_wp2_with fail
            go_quiet (fail)
            go_wp2_with fail
            go_ret2
            exact .inr ⟨not_nodup hlt hlk (by rw [HY.out, HZ.out]), rfl, hW.trans ((hW2.mono hW.size).trans ((pw_below_drewN (Below.refl _ _) _).mono (by have := hW.size; have := hW2.size; omega)))⟩
          · have hb : ((y : Int) == z) = false := beq_eq_false_iff_ne.2 (by omega)
            have HE := Lib.hid heq
            clear heq
            go_wp2_with fail
            go_quiet (fail)
            go_wp2_with fail
            refine ⟨⟨k + 1, by omega, by go_num, fun j hj hk' => ?_, pw_below_drewN hW2 _⟩, by simp [intOf]; omega⟩
            by_cases e : j = k
            · subst e; rw [HY.out, HZ.out]; exact HE.out
            · exact HNE.out j (by omega) (by omega)
        · have hdk : decide ((k : Int) < i) = false := by simp; omega
          go_wp2_with fail
          obtain rfl : k = i := by omega
          refine ⟨⟨k + 1, by omega, by go_num, nodup_take hlt hnd (fun j hj => HNE.out j hj (by omega)), hW.trans (hW2.mono hW.size)⟩, by simp [intOf]; omega⟩
    · have hd : decide ((i : Int) < l.length) = false := by simp; omega
      rw [List.take_of_length_le (by omega)] at hnd
      have HN := Lib.hid hnd
      clear hnd
      go_wp2_with fail
      obtain ⟨wz, rfl⟩ : ∃ wz : World, wz = wr := ⟨_, rfl⟩
      have hs1 : w.heap.size ≤ wz.heap.size := hW.size
      obtain ⟨W1, hW1⟩ : ∃ W1, W1 = wz.alloc (.cells #[] 5) := ⟨_, rfl⟩
      have hB1 : Below w.heap.size w W1 := by rw [hW1]; exact hW.alloc hs1 _
      have hO1 : OwnN .u8 5 W1 wz.heap.size (.slice (some ⟨wz.heap.size, 0, none⟩) 0 0) [] := by
        rw [hW1]; exact own_lit_of (enc := encN .u8) wz wz.heap.size 5 [] (Nat.le_refl _) (by simp)
      have hs2 : wz.heap.size ≤ W1.heap.size := by rw [hW1]; simp
      rw [← hW1]
      clear hW1
      go_loopw [8, 9] (fun vo vi W => ∃ i : Nat, i ≤ l.length ∧ vi = .int .i64 i ∧ OwnN .u8 5 W wz.heap.size vo ((List.range i).map (refWeightAt l a)) ∧ Below wz.heap.size W1 W) (fun _ vi _ => l.length - (intOf vi).toNat)
      case atStart => exact ⟨0, by omega, rfl, hO1, Below.refl _ _⟩
      case round =>
        obtain ⟨i, hi, rfl, hown, hW3⟩ := hrel
        have HO := Lib.hid hown
        clear hown
        obtain ⟨wo, rfl⟩ : ∃ wo : World, wo = wr := ⟨_, rfl⟩
        have hB3 : Below w.heap.size w wo := hB1.trans (hW3.mono hs1)
        by_cases hlt : i < l.length
        · have hd : decide ((i : Int) < l.length) = true := by simp; omega
          obtain ⟨y, hy⟩ : ∃ y, l[i] = y := ⟨_, rfl⟩
          have ly : y < 256 := by rw [← hy]; exact hl _ (List.getElem_mem _)
          have HY := Lib.hid hy
          clear hy
          go_wp2_with fail
          go_loopw [10, 11] (fun vo vk W => ∃ k o : Nat, k ≤ l.length ∧ o < 256 ∧ vk = .int .i64 k ∧ vo = .int .u8 o ∧ pbut (fun q => gm (a ^^^ q) (ginv (y ^^^ q))) i (l.drop k) k o = refWeightAt l a i ∧ Drawn0 wo W) (fun _ vk _ => l.length - (intOf vk).toNat)
          case atStart => exact ⟨0, 1, by omega, by omega, rfl, rfl, by unfold refWeightAt; rw [show l.getD i 0 = y by rw [List.getD_eq_getElem?_getD, List.getElem?_eq_getElem hlt]; exact HY.out]; simp, Drawn0.refl _⟩
          case round =>
            obtain ⟨k, o, hk, ho, rfl, rfl, hg, hW4⟩ := hrel
            have HG := Lib.hid hg
            clear hg
            by_cases hlk : k < l.length
            · have hdk : decide ((k : Int) < l.length) = true := by simp; omega
              by_cases hki : k = i
              · subst hki
                go_wp2_with fail
                refine ⟨⟨k + 1, o, by omega, ho, by go_num, rfl, ?_, hW4⟩, by simp [intOf]; omega⟩
                rw [← HG.out, drop_cons hlk]; simp [pbut]
              · have hne : ((k : Int) != i) = true := by simp; omega
                obtain ⟨ad, e, hci⟩ := ((hr.below hB3).below hW4.below).atN i hlt
                subst e
                obtain ⟨bd, e, hck⟩ := ((hr.below hB3).below hW4.below).atN k hlk
                obtain rfl : ad = bd := Option.some.inj e
                obtain ⟨z, hz⟩ : ∃ z, l[k] = z := ⟨_, rfl⟩
                rw [HY.out] at hci
                rw [hz] at hck
                have lz : z < 256 := by rw [← hz]; exact hl _ (List.getElem_mem _)
                have HZ := Lib.hid hz
                have HK := Lib.hid hki
                clear hz e hki
                have x1 := u8_xor_nat a z ha lz
                have x2 := u8_xor_nat y z ly lz
                have l1 : a ^^^ z < 256 := xor_lt ha lz
                have l2 : y ^^^ z < 256 := xor_lt ly lz
                have l3 : ginv (y ^^^ z) < 256 := ginv_lt l2
                have l4 : gm (a ^^^ z) (ginv (y ^^^ z)) < 256 := gm_lt l1 _
                go_wp2_with fail
                go_quiet ((first | (go_at_call 17; exact quiet_same (refInv_c _ l2 _)) | (go_at_call 16; exact quiet_same (refMul_c _ _ (by assumption) (by assumption) _))))
                go_wp2_with fail
                refine ⟨⟨k + 1, gm o (gm (a ^^^ z) (ginv (y ^^^ z))), by omega, gm_lt ho _, by go_num, rfl, ?_, hW4.step _⟩, by simp [intOf]; omega⟩
                rw [← HG.out, drop_cons hlk, HZ.out]; simp only [pbut, if_neg HK.out]
            · have hdk : decide ((k : Int) < l.length) = false := by simp; omega
              have h := HG.out
              rw [List.drop_eq_nil_of_le (by omega)] at h
              have H := Lib.hid h
              clear h HG
              have hD : Below wo.heap.size wo wr := hW4.below
              have hs3 : W1.heap.size ≤ wo.heap.size := hW3.size
              have hs4 : wo.heap.size ≤ wr.heap.size := hD.size
              go_wp2_with (at_builtin; go_must (refine append_N (w0 := W1) wz.heap.size rfl (.tmp 70) (.tmp 72) 27 5 .u8 1 rfl Try.underlying27 info_u8 (by decide) _ ((List.range i).map (refWeightAt l a)) _ rfl _ rfl (by simp) (HO.out.kept hD) (hW3.trans (hD.mono (by omega))) (by omega) (by simp; omega) ?_); intro v1 w6 ho6 hb6)
              refine ⟨⟨i + 1, by omega, by go_num, ?_, hb6⟩, by simp [intOf]; omega⟩
              rw [List.range_succ, List.map_append, List.map_singleton, ← H.out]
              exact ho6
        · have hd : decide ((i : Int) < l.length) = false := by simp; omega
          obtain rfl : i = l.length := by omega
          go_wp2_with fail
          go_ret2
          exact .inl ⟨HN.out, _, rfl, HO.out.lower hs1, hB3⟩
end Go.Proofs.Ytpmjkmcehhojhaa.F
