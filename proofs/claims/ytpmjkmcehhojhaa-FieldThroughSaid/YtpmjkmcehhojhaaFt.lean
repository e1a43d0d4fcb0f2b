/- The law FieldThrough, walked. -/
import Derived.Test.YtpmjkmcehhojhaaGn
namespace Go.Proofs.Ytpmjkmcehhojhaa.F
open Go.RowKit Go.Proofs.YtpmjkmcehhojhaaW.PrintWords

set_option maxHeartbeats 2000000 in
theorem FieldThrough_walk (A B : Option Addr) (c d : Nat) (p l : List Nat) (a : Nat) (w : World) (hp : RN .u8 w A p) (hl : RN .u8 w B l) (lp : ∀ x ∈ p, x < 256) (ll : ∀ x ∈ l, x < 256) (hc : p.length ≤ c) (ha : a < 256) :
    Calls Try.prog 8 #[.slice A p.length c, .slice B l.length d, .int .u8 a] w fun e w' => e = .returned (.bool true) ∧ Below w.heap.size w w' := by
  have hmp := hp.max
  have hml := hl.max
  go_enter Try.func8, Try.ntmps8
  go_wp2_with fail
  go_loopw [7, 9] (fun vl vi W => ∃ (i : Nat) (m : List Nat), i ≤ l.length ∧ i ≤ 60 ∧ m.length ≤ i ∧ vi = .int .i64 i ∧ OwnN .u8 5 W w.heap.size vl m ∧ m.Nodup ∧ (∀ x ∈ m, x < 256) ∧ Below w.heap.size w W) (fun _ vi _ => 60 - (intOf vi).toNat)
  case atStart => exact ⟨0, [], by omega, by omega, by simp, rfl, OwnN.nil _ _ _ _, by simp, by simp, Below.refl _ _⟩
  case round =>
    obtain ⟨i, m, hi, hi2, hmi, rfl, hown, hnd, hm, hW⟩ := hrel
    obtain ⟨M, cm, rfl, hcm, hrm⟩ := hown.reads
    have HO := Lib.hid hown
    have HN := Lib.hid hnd
    have HM := Lib.hid hm
    clear hown hnd hm
    have hmm := hrm.max
    by_cases h12 : i < l.length ∧ i < 60
    · obtain ⟨h1, h2⟩ := h12
      have hd1 : decide ((i : Int) < l.length) = true := by simp; omega
      have hd2 : decide ((i : Int) < 60) = true := by simp; omega
      · skip
        obtain ⟨wo, rfl⟩ : ∃ wo : World, wo = wr := ⟨_, rfl⟩
        obtain ⟨bd, e, hci⟩ := (hl.below hW).at i h1
        subst e
        obtain ⟨y, hy⟩ : ∃ y, l[i] = y := ⟨_, rfl⟩
        rw [hy] at hci
        have ly : y < 256 := by rw [← hy]; exact ll _ (List.getElem_mem _)
        clear hy
        have hs := hW.size
        go_wp2_with fail
        go_loopw [10, 11] (fun vk vj W => ∃ (j : Nat) (b : Bool), j ≤ m.length ∧ vj = .int .i64 j ∧ vk = .bool b ∧ (b = true ↔ y ∈ m.take j) ∧ Drawn0 wo W) (fun _ vj _ => m.length - (intOf vj).toNat)
        case atStart => exact ⟨0, false, by omega, rfl, rfl, by simp, Drawn0.refl _⟩
        case round =>
          obtain ⟨j, b, hj, rfl, rfl, hb, hD⟩ := hrel
          have HB := Lib.hid hb
          clear hb
          by_cases h3 : j < m.length
          · have hd3 : decide ((j : Int) < m.length) = true := by simp; omega
            obtain ⟨md, e, hcj⟩ := (hrm.below hD.below).atN j h3
            subst e
            have hci2 : ∀ n, (wr.drewN n).cell? (bd.add i) = some (.int .u8 y) := fun n => by
              have := hD.below.cell (p := bd.add i) (World.block_lt_of_cell? _ _ hci)
              exact this.trans hci
            obtain ⟨z, hz⟩ : ∃ z, m[j] = z := ⟨_, rfl⟩
            rw [hz] at hcj
            have HZ := Lib.hid hz
            clear hz
            have htk : m.take (j + 1) = m.take j ++ [z] := by rw [List.take_succ_eq_append_getElem h3, HZ.out]
            have HT := Lib.hid htk
            clear htk
            cases b
            · by_cases hyz : z = y
              · have hb : ((z : Int) == y) = true := by simp [hyz]
                have HE := Lib.hid hyz
                clear hyz
                go_wp2_with fail
                go_quiet (fail)
                go_wp2_with fail
                exact ⟨⟨j + 1, true, by omega, by go_num, rfl, by rw [HT.out, HE.out]; simp, hD.step _⟩, by simp [intOf]; omega⟩
              · have hb : ((z : Int) == y) = false := beq_eq_false_iff_ne.2 (by omega)
                have HE := Lib.hid hyz
                clear hyz
                go_wp2_with fail
                go_quiet (fail)
                go_wp2_with fail
                refine ⟨⟨j + 1, false, by omega, by go_num, rfl, ?_, hD.step _⟩, by simp [intOf]; omega⟩
                rw [HT.out, List.mem_append, ← HB.out]
                have := HE.out
                simp; exact fun e => this e.symm
            · go_wp2_with fail
              go_quiet (fail)
              go_wp2_with fail
              refine ⟨⟨j + 1, true, by omega, by go_num, rfl, ?_, hD.step _⟩, by simp [intOf]; omega⟩
              rw [HT.out, List.mem_append, ← HB.out]; simp
          · have hd3 : decide ((j : Int) < m.length) = false := by simp; omega
            have hb2 := HB.out
            rw [List.take_of_length_le (by omega)] at hb2
            have HB2 := Lib.hid hb2
            clear hb2 HB
            have hD2 := hD.below
            have hs4 : wo.heap.size ≤ wr.heap.size := hD2.size
            have hB4 : Below w.heap.size w wr := hW.trans (hD2.mono hs)
            cases b
            · have hci3 : wr.cell? (bd.add i) = some (.int .u8 y) := (hD2.cell (p := bd.add i) (World.block_lt_of_cell? _ _ hci)).trans hci
              go_wp2_with (at_builtin; go_must (refine append_N (w0 := w) w.heap.size rfl (.tmp 45) (.tmp 50) 27 5 .u8 1 rfl Try.underlying27 info_u8 (by decide) _ m _ rfl _ rfl (by simp) (HO.out.kept hD2) hB4 (by omega) (by omega) ?_); intro v1 w6 ho6 hb6)
              refine ⟨⟨i + 1, m ++ [y], by omega, by omega, by simp; omega, by go_num, ho6, ?_, ?_, hb6⟩, by simp [intOf]; omega⟩
              · rw [List.nodup_append]
                exact ⟨HN.out, by simp, fun x hx z hz => by simp at hz; subst hz; exact fun e => by have := HB2.out.2 (e ▸ hx); cases this⟩
              · intro x hx
                rcases List.mem_append.1 hx with hx | hx
                · exact HM.out x hx
                · simp at hx; omega
            · go_wp2_with fail
              exact ⟨⟨i + 1, m, by omega, by omega, by omega, by go_num, HO.out.kept hD2, HN.out, HM.out, hB4⟩, by simp [intOf]; omega⟩
    · have key : decide (i < l.length) = false ∨ (decide (i < l.length) = true ∧ decide ((i : Int) < 60) = false) := by
        by_cases h1 : i < l.length
        · exact .inr ⟨by simp; omega, by simp; omega⟩
        · exact .inl (by simp; omega)
      obtain ⟨wz, rfl⟩ : ∃ wz : World, wz = wr := ⟨_, rfl⟩
      have hmq : ∃ q : List Nat, (if m.length < p.length then p.take m.length else p) = q := ⟨_, rfl⟩
      obtain ⟨q, hq⟩ := hmq
      have hrq : RN .u8 w A q := by
        rw [← hq]; split
        · exact hp.take _ (by omega)
        · exact hp
      have lq : ∀ x ∈ q, x < 256 := fun x hx => lp x (by
        rw [← hq] at hx; split at hx
        · exact List.mem_of_mem_take hx
        · exact hx)
      have hqm : q.length ≤ m.length := by
        rw [← hq]; split
        · rw [List.length_take]; omega
        · omega
      have hqc : q.length ≤ c := by
        rw [← hq]; split
        · rw [List.length_take]; omega
        · omega
      have hq1 : m.length < p.length → q.length = m.length := fun h => by rw [← hq, if_pos h, List.length_take]; omega
      have hq2 : ¬ m.length < p.length → q.length = p.length := fun h => by rw [← hq, if_neg h]
      have HQ1 := Lib.hid hq1
      have HQ2 := Lib.hid hq2
      have HTH := Lib.hid (through m q a HM.out lq ha HN.out hqm)
      have HE := Lib.hid h12
      have hs := hW.size
      clear hq hq1 hq2 h12
      rcases key with hd1 | ⟨hd1, hd2⟩ <;> rcases Classical.em (m.length < p.length) with hmin | hmin
      all_goals
        first
          | have HL := Lib.hid (HQ1.out hmin)
          | have HL := Lib.hid (HQ2.out hmin)
        go_wp2_with fail
        go_loopw [8, 12] (fun vv vi W => ∃ i : Nat, i ≤ m.length ∧ vi = .int .i64 i ∧ OwnN .u8 5 W wz.heap.size vv ((m.take i).map (geval q)) ∧ Below wz.heap.size wz W) (fun _ vi _ => m.length - (intOf vi).toNat)
        case atStart => exact ⟨0, by omega, rfl, OwnN.nil _ _ _ _, Below.refl _ _⟩
        case round =>
          obtain ⟨i, hi, rfl, hown, hW3⟩ := hrel
          have HO3 := Lib.hid hown
          clear hown
          have hs3 := hW3.size
          have hB3 : Below w.heap.size w wr := hW.trans (hW3.mono hs)
          by_cases hlt : i < m.length
          · have hd4 : decide ((i : Int) < m.length) = true := by simp; omega
            obtain ⟨ad, e, hci⟩ := (hrm.below hW3).at i hlt
            subst e
            obtain ⟨y, hy⟩ : ∃ y, m[i] = y := ⟨_, rfl⟩
            rw [hy] at hci
            have ly : y < 256 := by rw [← hy]; exact HM.out _ (List.getElem_mem _)
            have HY := Lib.hid hy
            clear hy
            go_wp2_with fail
            rw [← HL.out]
            refine (Eval_c _ _ q y _ (hrq.below hB3) lq ly).mono ?_
            rintro e w1 ⟨rfl, n1, rfl⟩
            rw [HL.out]
            have hBn : ∀ n, Below wz.heap.size wz (wr.drewN n) := fun n => pw_below_drewN hW3 n
            have HBN := Lib.hid hBn
            clear hBn
            go_wp2_with (at_builtin; go_must (refine append_N (w0 := wz) wz.heap.size rfl (.tmp 65) (.tmp 72) 27 5 .u8 1 rfl Try.underlying27 info_u8 (by decide) _ ((m.take i).map (geval q)) _ rfl _ rfl (by simp) (HO3.out.kept (pw_below_drewN (Below.refl _ _) _)) (HBN.out _) (by simpa using hs3) (by simp; omega) ?_); intro v1 w6 ho6 hb6)
            refine ⟨⟨i + 1, by omega, by go_num, ?_, hb6⟩, by simp [intOf]; omega⟩
            rw [List.take_succ_eq_append_getElem hlt, List.map_append, HY.out]
            exact ho6
          · have hd4 : decide ((i : Int) < m.length) = false := by simp; omega
            have hv := HO3.out
            rw [List.take_of_length_le (by omega)] at hv
            have lv : ∀ x ∈ m.map (geval q), x < 256 := fun x hx => by
              obtain ⟨z, hz, rfl⟩ := List.mem_map.1 hx
              exact geval_lt lq (HM.out z hz)
            have lw : ∀ x ∈ weights m a, x < 256 := fun x hx => by
              obtain ⟨z, hz, rfl⟩ := List.mem_map.1 hx
              exact gm_lt (pbut_lt _ _ _ _ (by omega)) _
            have hth := HTH.out
            obtain ⟨vs, hvs⟩ : ∃ vs, m.map (geval q) = vs := ⟨_, rfl⟩
            obtain ⟨ws, hws⟩ : ∃ ws, weights m a = ws := ⟨_, rfl⟩
            rw [hvs] at hv lv hth
            rw [hws] at lw hth
            obtain ⟨V, cv, rfl, hcv, hrv⟩ := hv.reads
            have HWS := Lib.hid hws
            have LV := Lib.hid lv
            have LW := Lib.hid lw
            have HT2 := Lib.hid hth
            clear hv lv lw HO3 hth hvs hws
            go_wp2_with fail
            refine (Weights_c _ _ m a _ (hrm.below hW3) HM.out ha (by omega) HN.out).mono ?_
            rintro e w1 ⟨v1, rfl, ho1, hb1⟩
            rw [HWS.out] at ho1
            obtain ⟨V1, cv1, rfl, hcv1, hr1⟩ := ho1.reads
            clear ho1
            go_wp2_with fail
            refine (live_c _).mono ?_
            rintro e w2 ⟨rfl, hb2⟩
            have hB5 : Below w.heap.size w w2 := (hB3.trans (hb1.mono hB3.size)).trans (hb2.mono (Nat.le_trans hB3.size hb1.size))
            go_wp2_with fail
            refine (Dot_c _ _ _ _ vs ws _ ((hrv.below hb1).below hb2) (hr1.below hb2) LV.out LW.out).mono ?_
            rintro e w3 ⟨rfl, n3, rfl⟩
            rw [HT2.out]
            go_wp2_with fail
            rw [← HL.out]
            refine (Eval_c _ _ q a _ ((hrq.below hB5).drewN _) lq ha).mono ?_
            rintro e w4 ⟨rfl, n4, rfl⟩
            go_wp2_with fail
            go_ret
            exact ⟨rfl, pw_below_drewN hB5 _⟩
end Go.Proofs.Ytpmjkmcehhojhaa.F
