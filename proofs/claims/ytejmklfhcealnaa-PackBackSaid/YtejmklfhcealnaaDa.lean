/- The document's padding and words, walked. -/
import Derived.Test.YtejmklfhcealnaaDk
import Derived.Test.YtejmklfhcealnaaDg2
import Derived.Test.YtejmklfhcealnaaDr
set_option linter.unusedVariables false
set_option linter.unusedSimpArgs false
set_option maxRecDepth 20000
namespace Go.Proofs.Ytejmklfhcealnaa.F
open Go.RowKit Go.Proofs.YtejmklfhcealnaaW.PrintWords

section
variable {P : Program} {ops : Array Oper} {rest : List Oper} {o : Oper} {a : Act} {w : World} {Q : Exit → Act → World → Prop}
/-- A slice of constants, told by its run. -/
theorem wpList_buildSlice (hgd : o.guard = none) (ty : TypeId) (n : Nat) (fs : Array (Nat × Operand)) (ho : o.op = .buildSlice ty n fs) (v : Value) (w1 : World) (hrun : (execOp a.eval o).run P w = .ok (.value v) w1) (h : wpList P ops Q rest (a.put o.dst v) w1) : wpList P ops Q (o :: rest) a w :=
  wpList_plain hgd fun K hK => by
    unfold Oper.wp
    rw [hrun]
    exact hK _ _ h
end
theorem K_c (w : World) : Calls Try.prog 40 #[] w fun e w' => e = .returned (.slice (some ⟨w.heap.size, 0, none⟩) 64 64) ∧ w' = w.alloc (.cells (tabA Kw) 70) := by
  go_enter Try.func40, Try.ntmps40
  repeat (first | (refine wpList_buildSlice rfl _ _ _ rfl (.slice (some ⟨w.heap.size, 0, none⟩) 64 64) (w.alloc (.cells (tabA Kw) 70)) (by kernel_rfl) ?_) | go_step)
  go_ret
  exact ⟨rfl, rfl⟩
theorem Padded_c (A : Option Addr) (c : Nat) (p : List Nat) (w : World) (hr : RN .u8 w A p) (hl : p.length ≤ 140737488351232) :
    Calls Try.prog 41 #[.slice A p.length c] w fun e w' => ∃ v, e = .returned v ∧ OwnN .u8 5 w' w.heap.size v (p ++ padN p.length) ∧ Below w.heap.size w w' := by
  have hm := hr.max
  have hO : OwnN .u8 5 (w.alloc (.cells #[] 5)) w.heap.size (.slice (some ⟨w.heap.size, 0, none⟩) 0 0) [] := by
    have := own_lit_of (enc := encN .u8) w w.heap.size 5 [] (by simp) (by simp)
    simp only [List.map_nil, List.length_nil, encs] at this
    exact this
  have hbA : Below w.heap.size w (w.alloc (.cells #[] 5)) := (Below.refl _ _).alloc (Nat.le_refl _) _
  have HRA := Lib.hid (hr.below hbA)
  have hsA : w.heap.size ≤ (w.alloc (.cells #[] 5)).heap.size := by simp
  have hl1 : (([] : List Nat).length + p.length) * 1 ≤ 140737488355328 := by simp; omega
  have hl2 : (p.length + 1) * 1 ≤ 140737488355328 := by omega
  have HO := Lib.hid hO
  have HBA := Lib.hid hbA
  have HL1 := Lib.hid hl1
  have HL2 := Lib.hid hl2
  clear hO hbA hr hl1 hl2
  go_enter Try.func41, Try.ntmps41
  go_wp2_with (first
    | (at_builtin; refine append_NN w.heap.size rfl (.tmp 6) (.tmp 7) 27 5 .u8 1 rfl Try.underlying27 info_u8 (by decide) (.slice (some ⟨w.heap.size, 0, none⟩) 0 0) [] p A c rfl rfl HO.out HRA.out hsA HL1.out ?_; intro v2 w2 ho2 hg2 hat2; rw [List.nil_append] at ho2; have hb2 := HBA.out.trans (below_grown HO.out hsA hg2); have hs2 : w.heap.size ≤ w2.heap.size := hb2.size; have HO2 := Lib.hid ho2; clear ho2 hg2 hat2)
    | (at_builtin; refine append_N (w0 := w) (W := w2) w.heap.size rfl (.tmp 9) (.tmp 10) 27 5 .u8 1 rfl Try.underlying27 info_u8 (by decide) v2 p 128 rfl w2.heap.size rfl rfl HO2.out hb2 hs2 HL2.out ?_; intro v3 w3 ho3 hb3))
  have HO3 := Lib.hid ho3
  have HB3 := Lib.hid hb3
  have hsA := padN_eq p.length
  obtain ⟨z, hz⟩ : ∃ z, (119 - p.length % 64) % 64 = z := ⟨_, rfl⟩
  rw [hz] at hsA
  have HPE := Lib.hid hsA
  have HZ := Lib.hid hz
  clear ho3 hb3 hz hsA
  go_loopw [3] (fun vp Wr => ∃ i : Nat, i ≤ z ∧ OwnN .u8 5 Wr w.heap.size vp (p ++ 128 :: List.replicate i 0) ∧ Below w.heap.size w Wr) (fun vp _ => z + p.length + 2 - lenV vp)
  case atStart => exact ⟨0, Nat.zero_le _, HO3.out, HB3.out⟩
  case round =>
    obtain ⟨i, hi, ho, hW⟩ := hrel
    obtain ⟨A4, c4, e4, hc4, _, _, hr4⟩ := ho.form
    subst e4
    have hll : (p ++ 128 :: List.replicate i 0).length = p.length + 1 + i := by simp; omega
    have hm4 := hr4.max
    by_cases hlt : i < z
    · have hne : (((p ++ 128 :: List.replicate i 0).length : Int) % 64 != 56) = true := by
        rw [bne_iff_ne, hll]
        have := HZ.out
        omega
      obtain ⟨ys, hys⟩ : ∃ ys, p ++ 128 :: List.replicate i 0 = ys := ⟨_, rfl⟩
      have hnx : p ++ 128 :: List.replicate (i + 1) 0 = ys ++ [0] := by rw [← hys, List.replicate_succ']; simp
      rw [hys] at ho hc4 hll hm4 hne ⊢
      have hly : (ys.length + 1) * 1 ≤ 140737488355328 := by have := HZ.out; omega
      have HNX := Lib.hid hnx
      have HO := Lib.hid ho
      have HLL := Lib.hid hll
      have HLY := Lib.hid hly
      have hbw : w.heap.size ≤ wr.heap.size := hW.size
      clear hys hnx ho hr4 hll hly
      go_wp2_with (at_builtin; refine append_N (w0 := w) (W := wr) w.heap.size rfl (.tmp 16) (.tmp 17) 27 5 .u8 1 rfl Try.underlying27 info_u8 (by decide) (.slice A4 ys.length c4) ys 0 rfl wr.heap.size rfl rfl HO.out hW hbw HLY.out ?_; intro v5 w5 ho5 hb5)
      refine ⟨⟨i + 1, by omega, by rw [HNX.out]; exact ho5, hb5⟩, ?_⟩
      obtain ⟨A5, c5, rfl, _⟩ := ho5.form
      have := HLL.out
      have := HZ.out
      simp [lenV]
      omega
    · have hne : (((p ++ 128 :: List.replicate i 0).length : Int) % 64 != 56) = false := by
        rw [hll]
        have := HZ.out
        simp
        omega
      obtain ⟨ys, hys⟩ : ∃ ys, p ++ 128 :: List.replicate i 0 = ys := ⟨_, rfl⟩
      have hyz : ys = p ++ 128 :: List.replicate z 0 := by rw [← hys, show i = z by omega]
      rw [hys] at ho hc4 hll hm4 hne ⊢
      have hyl : ys.length ≤ 140737488351232 + 65 := by have := HZ.out; omega
      have hfin : p ++ padN p.length = ys ++ bigN 8 (8 * p.length) := by rw [HPE.out, hyz]; simp
      have HF := Lib.hid hfin
      have HO := Lib.hid ho
      have HYL := Lib.hid hyl
      have HW := Lib.hid hW
      clear hys hyz ho hr4 hll hyl hfin hW
      have hpl : (p.length : Int) * 8 ≤ 1125899906842624 := by omega
      go_wp2_with fail
      obtain ⟨wo, rfl⟩ : ∃ wo : World, wo = wr := ⟨_, rfl⟩
      go_loopw [3, 5] (fun vp vi Wr => ∃ i : Nat, i ≤ 8 ∧ vi = .int .u64 i ∧ OwnN .u8 5 Wr w.heap.size vp (ys ++ (bigN 8 (8 * p.length)).take i) ∧ Below w.heap.size w Wr) (fun _ vi _ => 8 - (intOf vi).toNat)
      case atStart => exact ⟨0, by omega, rfl, by simpa using HO.out, HW.out⟩
      case round =>
        obtain ⟨i, hi, rfl, ho, hW⟩ := hrel
        by_cases hlt : i < 8
        · have hd : decide ((i : Int) < 8) = true := decide_eq_true (by omega)
          have hsn : (bigN 8 (8 * p.length)).take (i + 1) = (bigN 8 (8 * p.length)).take i ++ [8 * p.length / 256 ^ (8 - 1 - i) % 256] := by
            rw [List.take_succ_eq_append_getElem (by rw [bigN_len]; exact hlt)]
            simp [bigN]
          have hlt8 : ((bigN 8 (8 * p.length)).take i).length = i := by rw [List.length_take, bigN_len]; omega
          obtain ⟨bs, hbs⟩ : ∃ bs, (bigN 8 (8 * p.length)).take i = bs := ⟨_, rfl⟩
          rw [hbs] at ho hsn hlt8
          have hval : (p.length : Int) * 8 / 2 ^ (56 - 8 * i) % 256 = ((8 * p.length / 256 ^ (8 - 1 - i) % 256 : Nat) : Int) := by
            have e1 : (256 : Nat) ^ (8 - 1 - i) = 2 ^ (56 - 8 * i) := by rw [show (256 : Nat) = 2 ^ 8 from rfl, ← Nat.pow_mul]; congr 1; omega
            rw [e1, Int.natCast_emod, Int.natCast_ediv, Int.natCast_pow, Int.natCast_mul, Int.mul_comm]; rfl
          obtain ⟨A4, c4, e4, hc4, _, _, hr4⟩ := ho.form
          subst e4
          have hm5 := hr4.max
          have hly : ((ys ++ bs).length + 1) * 1 ≤ 140737488355328 := by have := HYL.out; rw [List.length_append]; omega
          obtain ⟨zs, hzs⟩ : ∃ zs, ys ++ bs = zs := ⟨_, rfl⟩
          have hnx : ys ++ (bigN 8 (8 * p.length)).take (i + 1) = zs ++ [8 * p.length / 256 ^ (8 - 1 - i) % 256] := by rw [hsn, ← hzs]; simp
          rw [hzs] at ho hc4 hm5 hly ⊢
          have HNX := Lib.hid hnx
          have HV := Lib.hid hval
          have HO := Lib.hid ho
          have HLY := Lib.hid hly
          have hbw : w.heap.size ≤ wr.heap.size := hW.size
          have HWW := Lib.hid hW
          clear hnx hval ho hly hzs hbs hsn hlt8 hr4 hW
          go_wp2_with (first | rw [HV.out] | (at_builtin; refine append_N (w0 := w) (W := wr) w.heap.size rfl (.tmp 27) (.tmp 34) 27 5 .u8 1 rfl Try.underlying27 info_u8 (by decide) (.slice A4 zs.length c4) zs _ rfl wr.heap.size rfl rfl HO.out HWW.out hbw HLY.out ?_; intro v5 w5 ho5 hb5))
          exact ⟨⟨i + 1, by omega, by go_num, by rw [HNX.out]; exact ho5, hb5⟩, by simp [intOf]; omega⟩
        · have hd : decide ((i : Int) < 8) = false := decide_eq_false (by omega)
          rw [List.take_of_length_le (by rw [bigN_len]; omega), ← HF.out] at ho
          have HO := Lib.hid ho
          clear ho
          go_wp2_with fail
          go_ret
          exact ⟨_, rfl, HO.out, hW⟩
end Go.Proofs.Ytejmklfhcealnaa.F
