/- The document's parity, walked. -/
import Derived.Test.YtdmfecaejdiihaaPu
set_option linter.unusedVariables false
set_option linter.unusedSimpArgs false
namespace Go.Proofs.Ytdmfecaejdiihaa.F
open Go.RowKit Go.Proofs.YtdmfecaejdiihaaW.PrintWords

set_option maxHeartbeats 4000000 in
theorem rEncode_bad (A : Option Addr) (c : Nat) (css : List (List Nat)) (m : Int) (w : World) (hmx : (css.length : Int) ≤ 9223372036854775807) (h : css.length < 1 ∨ 32 < css.length ∨ m < 0 ∨ 16 < m) :
    Calls Try.prog 10 #[.slice A css.length c, .int .i64 m] w fun e w' => e = .returned (.tuple #[.slice none 0 0, .int .i64 2]) ∧ w' = w := by
  by_cases h1 : css.length < 1
  · have d1 : decide ((css.length : Int) < 1) = true := decide_eq_true (by omega)
    go_enter Try.func10, Try.ntmps10
    go_wp2_with fail
    go_ret2
    exact ⟨rfl, rfl⟩
  · have d1 : decide ((css.length : Int) < 1) = false := decide_eq_false (by omega)
    by_cases h2 : 32 < css.length
    · have d2 : decide ((32 : Int) < css.length) = true := decide_eq_true (by omega)
      go_enter Try.func10, Try.ntmps10
      go_wp2_with fail
      go_ret2
      exact ⟨rfl, rfl⟩
    · have d2 : decide ((32 : Int) < css.length) = false := decide_eq_false (by omega)
      by_cases h3 : m < 0
      · have d3 : decide (m < 0) = true := decide_eq_true h3
        go_enter Try.func10, Try.ntmps10
        go_wp2_with fail
        go_ret2
        exact ⟨rfl, rfl⟩
      · have d3 : decide (m < 0) = false := decide_eq_false h3
        have d4 : decide (16 < m) = true := decide_eq_true (by omega)
        go_enter Try.func10, Try.ntmps10
        go_wp2_with fail
        go_ret2
        exact ⟨rfl, rfl⟩

theorem sv_of_row {W : World} {base e : Nat} {Af : Option Addr} {cf : Nat} {sv : List SD} (h : W.ownsRow base e 1 (.slice Af sv.length cf) sv.length (sv.map sdv)) : SV W Af sv := by
  rcases h.2 with ⟨e1, e2⟩ | ⟨g, cap, cur, e1, hb, hh, hc, hm, _⟩
  · have hl : sv.length = 0 := by injection e1
    exact ⟨by omega, fun h => by omega⟩
  · injection e1 with e3 e4 e5
    subst e3
    have hlt := own_lt h g rfl
    refine ⟨by unfold maxLen at hm; omega, fun hp => ⟨_, rfl, hlt, fun i hi => ?_⟩⟩
    exact h.cells (g := g) rfl i _ (by simp [hi, sdv])
theorem hidx_all (sv : List SD) (h : ∀ i (hi : i < sv.length), sv[i].1.isSome = true) : hidx sv sv.length = List.range sv.length := by
  unfold hidx
  refine List.filter_eq_self.2 (fun j hj => ?_)
  have hj := List.mem_range.1 hj
  rw [show sv.getD j (none, 0, 0) = sv[j] by simp [List.getD_eq_getElem?_getD, hj]]
  exact h j hj
theorem grp_drop (css : List (List Nat)) (L n m : Nat) : (grpR css (List.range n) L (n + m)).drop n = (grpP css (List.range n) L (n + m)).drop n := by
  apply List.ext_getElem
  · simp [grpR, grpP]
  · intro i h1 h2
    simp [grpR, grpP, grpAt]
    intro h; omega
theorem range_getD (css : List (List Nat)) : (List.range css.length).map (fun j => css.getD j []) = css := by
  apply List.ext_getElem
  · simp
  · intro i h1 h2
    simp [List.getD_eq_getElem?_getD, h2]
set_option maxRecDepth 20000 in
set_option maxHeartbeats 8000000 in
/-- Well-formed numbers: the shards of parity, or which lengths differ. -/
theorem rEncode_c (A : Option Addr) (c : Nat) (css : List (List Nat)) (m L : Nat) (w : World) (hr : RR w A css) (hn : 0 < css.length) (hn2 : css.length ≤ 32) (hm : m ≤ 16) (hlen : ∀ cs ∈ css, cs.length ≤ 4096) (hb : ∀ cs ∈ css, ∀ y ∈ cs, y < 256)
    (hL : wrongV (css.map List.length) = 0 → ∀ cs ∈ css, cs.length = L) :
    Calls Try.prog 10 #[.slice A css.length c, .int .i64 m] w (EncPost css m L w) := by
  have hmx := hr.max
  have d1 : decide ((css.length : Int) < 1) = false := decide_eq_false (by omega)
  have d2 : decide ((32 : Int) < css.length) = false := decide_eq_false (by omega)
  have d3 : decide ((m : Int) < 0) = false := decide_eq_false (by omega)
  have d4 : decide ((16 : Int) < m) = false := decide_eq_false (by omega)
  have hm0 : (0 : Int) ≤ (m : Int) := by omega
  have hm1 : (m : Int) ≤ 16 := by omega
  have hg0 : (w.alloc (.cells #[] 29)).ownsRow w.heap.size 29 1 (.slice (some ⟨w.heap.size, 0, none⟩) 0 0) 0 [] := by
    have h := World.ownsRow_lit (base := w.heap.size) (e := 29) (size := 1) w #[] 0 (by simp) (by simp [maxLen]) (by simp)
    simpa using h
  have hbA : Below w.heap.size w (w.alloc (.cells #[] 29)) := (Below.refl _ _).alloc (Nat.le_refl _) _
  obtain ⟨W1, hW1⟩ : ∃ W1, w.alloc (.cells #[] 29) = W1 := ⟨_, rfl⟩
  have hs1 : W1.heap.size = w.heap.size + 1 := by rw [← hW1]; simp
  rw [hW1] at hg0 hbA
  have HW1 := Lib.hid hW1
  have HG0 := Lib.hid hg0
  have HBA := Lib.hid hbA
  have HRR := Lib.hid hr
  have HLEN := Lib.hid hlen
  have HBB := Lib.hid hb
  have HL := Lib.hid hL
  clear hW1 hg0 hbA hr hlen hb hL
  go_enter Try.func10, Try.ntmps10
  go_wp2_with (rw [HW1.out])

  go_loopw [6, 7] (fun va vi W => ∃ (sv : List SD) (okc : Nat → Prop), sv.length ≤ css.length ∧ vi = .int .i64 sv.length ∧ W.ownsRow w.heap.size 29 1 va sv.length (sv.map sdv) ∧ Fit W okc sv css ∧
      (∀ j, okc j → j < W.heap.size ∧ va.ownBlock ≠ some j) ∧ Below w.heap.size w W) (fun _ vi _ => css.length - (intOf vi).toNat)
  case atStart => exact ⟨[], fun _ => False, by simp, rfl, HG0.out, fun i h => by simp at h, fun _ h => h.elim, HBA.out⟩
  case round =>
    obtain ⟨sv, okc, hsl, rfl, hg, hf, hok, hB⟩ := hrel
    obtain ⟨Af, cf, rfl⟩ := own_slice hg
    have HG := Lib.hid hg
    have HF := Lib.hid hf
    have HOK := Lib.hid hok
    have HB := Lib.hid hB
    have hsz := hB.size
    clear hg hf hok hB
    by_cases hlt : sv.length < css.length
    · have hd : decide ((sv.length : Int) < css.length) = true := decide_eq_true (by omega)
      obtain ⟨ad, A9, c9, e, q9, l9, r9⟩ := (HRR.out.below HB.out).at sv.length hlt
      subst e
      have hyl := HLEN.out _ (List.getElem_mem hlt)
      obtain ⟨ys, hys⟩ : ∃ ys, css[sv.length] = ys := ⟨_, rfl⟩
      rw [hys] at q9 l9 r9 hyl
      have HYS := Lib.hid hys
      have hl2 : ((sv.map sdv).length + 1) * 24 ≤ 140737488355328 := by rw [List.length_map]; omega
      have hg2 : wr.ownsRow w.heap.size 29 1 (.slice Af sv.length cf) (sv.map sdv).length (sv.map sdv) := by rw [List.length_map]; exact HG.out
      obtain ⟨vals, hvals⟩ : ∃ vals, sv.map sdv = vals := ⟨_, rfl⟩
      rw [hvals] at hl2 hg2
      have HVALS := Lib.hid hvals
      obtain ⟨k, hk⟩ : ∃ k, sv.length = k := ⟨_, rfl⟩
      have HK := Lib.hid hk
      rw [hk] at hlt hd q9 hg2 ⊢
      have hE := empty_lit wr
      have hbE : Below wr.heap.size wr (wr.alloc (.cells #[] 5)) := (Below.refl _ _).alloc (Nat.le_refl _) _
      have hs2 : wr.heap.size ≤ (wr.alloc (.cells #[] 5)).heap.size := by simp
      have hl1 : (([] : List Nat).length + ys.length) * 1 ≤ 140737488355328 := by simp; omega
      have q9b := (hbE.cell (p := ad.add k) (World.block_lt_of_cell? _ _ q9)).trans q9
      have HE := Lib.hid hE
      have HBE := Lib.hid hbE
      have HR9 := Lib.hid (r9.below hbE)
      have HL1 := Lib.hid hl1
      have HL2 := Lib.hid hl2
      have HG2 := Lib.hid hg2
      have i0 : (0 : Int) ≤ (k : Int) := by omega
      have i1 : (k : Int) < (css.length : Int) := by omega
      clear hys hk hE hbE r9 hl1 hl2 hg2 hvals
      obtain ⟨wo, rfl⟩ : ∃ wo : World, wo = wr := ⟨_, rfl⟩
      go_wp2_with (first
        | (at_builtin; refine append_NNw wo.heap.size rfl (.tmp 33) (.tmp 37) 29 5 .u8 1 rfl Try.underlying29 info_u8 (by decide) (.slice (some ⟨wo.heap.size, 0, none⟩) 0 0) [] ys A9 c9 rfl rfl HE.out HR9.out hs2 HL1.out ?_; intro v2 w2 ho2 hg2 hat2; rw [List.nil_append] at ho2; have hb2 := HBE.out.trans (below_grown HE.out hs2 hg2); obtain ⟨A2, c2, rfl, hc2, hn2', ha2, hr2⟩ := ho2.form; have hs2' := hb2.size; have hA2s : A2.isSome = true := (by cases A2 with | none => (rcases hat2 with h | ⟨b, h, _⟩ <;> simp [Value.ownBlock] at h) | some a => rfl); have HG3 := Lib.hid (pw_own_below HG2.out hb2); have HB3 := Lib.hid (HB.out.trans (hb2.mono hsz)); have hbs3 : w.heap.size ≤ w2.heap.size := (by omega); have HB2 := Lib.hid hb2; have HR2 := Lib.hid hr2; have HA2 := Lib.hid ha2; clear ho2 hg2 hat2 hb2 hr2 ha2 hn2')
        | (at_builtin; refine print_append (w0 := w) w.heap.size rfl (.tmp 32) (.tmp 39) 22 29 (.slice none 0 0) 24 rfl Try.underlying22 info_bytes rfl (by decide) (.slice Af k cf) vals (.slice A2 ys.length c2) rfl rfl rfl HG3.out HB3.out hbs3 HL2.out ?_; intro v5 w5 hf5 hb5 hg5 hat5))
      have hs5 := hg5.size
      have hAf : ∀ b, (Value.slice Af k cf).ownBlock = some b → b < wo.heap.size := fun b hb => own_lt HG2.out b hb
      have hm5 : ∀ j, j < w2.heap.size → (Value.slice Af k cf).ownBlock ≠ some j → w5.heap[j]? = w2.heap[j]? := fun j h1 h2 => hg5.block j h1 (fun e => h2 e.symm)
      have hok0 := HOK.out
      rw [HK.out] at hok0
      have hf6 : Fit w5 (fun j => okc j ∨ ∃ a, A2 = some a ∧ j = a.block) (sv ++ [(A2, ys.length, c2)]) css := by
        have h1 : Fit w5 okc sv css := HF.out.move (fun j hj => by
          obtain ⟨o2, o3⟩ := hok0 j hj
          exact (hm5 j (by omega) o3).trans (HB2.out.block j o2))
        refine (h1.mono (fun j hj => .inl hj)).snoc (fun h2 => ?_)
        have hyy : css[sv.length] = ys := HYS.out
        rw [hyy]
        exact ⟨hA2s, rfl, hc2, HR2.out.move (fun a ha => hm5 a.block (HA2.out a ha).2 (fun e => by have := hAf _ e; have := (HA2.out a ha).1; omega)), fun a ha => .inr ⟨a, ha, rfl⟩⟩
      refine ⟨⟨sv ++ [(A2, ys.length, c2)], _, by rw [List.length_append, HK.out]; simp; omega, by rw [List.length_append, HK.out]; go_num, ?_, hf6, ?_, hb5⟩, by simp [intOf]; omega⟩
      · have h := hf5
        rw [← HVALS.out] at h
        have e1 : (sv ++ [(A2, ys.length, c2)]).length = (sv.map sdv ++ [sdv (A2, ys.length, c2)]).length := by simp
        rw [e1, List.map_append, List.map_cons, List.map_nil]
        exact h
      · rintro j (hj | ⟨a, ha, rfl⟩)
        · obtain ⟨o2, o3⟩ := hok0 j hj
          refine ⟨by omega, fun e => ?_⟩
          rcases hat5 with h | ⟨b, h, hb⟩
          · exact o3 (h ▸ e)
          · rw [h] at e; injection e with e; omega
        · have ho := HA2.out a ha
          refine ⟨by omega, fun e => ?_⟩
          rcases hat5 with h | ⟨b, h, hb⟩
          · rw [h] at e; have := hAf _ e; omega
          · rw [h] at e; injection e with e; omega
    · have hd : decide ((sv.length : Int) < css.length) = false := decide_eq_false (by omega)
      have hsl2 : sv.length = css.length := by omega
      have hSV := sv_of_row HG.out
      have hhl := heldLens_fit HF.out hsl2
      have hsv : ∀ x ∈ sv, x.2.1 ≤ 4096 := fun x hx => by
        obtain ⟨i, hi, rfl⟩ := List.getElem_of_mem hx
        rw [(HF.out i hi (by omega)).2.1]
        exact HLEN.out _ (List.getElem_mem _)
      have hwr := Wrong_r Af cf sv hsv wr hSV
      rw [hhl, hsl2] at hwr
      have hf7 : ∀ i (h : i < sv.length), sv[i].1.isSome = true ∧ RN .u8 wr sv[i].1 (css.getD i []) ∧ sv[i].2.1 = (css.getD i []).length ∧ (css.getD i []).length ≤ sv[i].2.2 := fun i hi => by
        have h2 : i < css.length := by omega
        obtain ⟨a1, a2, a3, a4, a5⟩ := HF.out i hi h2
        rw [show css.getD i [] = css[i] by simp [List.getD_eq_getElem?_getD, h2]]
        exact ⟨a1, a4, a2, a3⟩
      have hia := hidx_all sv (fun i hi => (hf7 i hi).1)
      rw [hsl2] at hia
      have HWR := Lib.hid hwr
      have HSV := Lib.hid hSV
      have HIA := Lib.hid hia
      have HF7 := Lib.hid hf7
      obtain ⟨er, her⟩ : ∃ er, wrongV (css.map List.length) = er := ⟨_, rfl⟩
      have HER := Lib.hid her
      have HSL := Lib.hid hsl2
      rw [hsl2]
      clear hwr hSV hia hf7 hhl hsv her HF HG HOK hsl2
      go_wp2_with fail
      refine HWR.out.mono ?_
      rw [HER.out]
      rintro e w2 ⟨rfl, hb2⟩
      have hLL := HL.out
      rw [HER.out] at hLL
      have HB2 := Lib.hid (HB.out.trans (hb2.mono hsz))
      by_cases h0 : er = 0
      · subst h0
        have hsl2 := HSL.out
        have hgr := rGroup_c Af cf sv css css.length (css.length + m) L w2 (HSV.out.below hb2) (fun i hi => by
            obtain ⟨a1, a2, a3, a4⟩ := HF7.out i hi
            exact ⟨a2.below hb2, a3, a4⟩) (by omega) (by omega) (by omega) (by omega) (by rw [hsl2, HIA.out]; simp)
          (fun i hi _ => by
            have h2 : i < css.length := by omega
            rw [show css.getD i [] = css[i] by simp [List.getD_eq_getElem?_getD, h2]]
            exact hLL rfl _ (List.getElem_mem _)) (by have h := HLEN.out _ (List.getElem_mem hn); rw [hLL rfl _ (List.getElem_mem hn)] at h; exact h)
          (fun i y hy => by
            by_cases h2 : i < css.length
            · rw [show css.getD i [] = css[i] by simp [List.getD_eq_getElem?_getD, h2]] at hy
              exact HBB.out _ (List.getElem_mem _) y hy
            · rw [show css.getD i [] = [] by simp [List.getD_eq_getElem?_getD, h2]] at hy
              simp at hy)
        rw [hsl2, HIA.out, List.take_of_length_le (by simp), range_getD, Int.natCast_add] at hgr
        have HGR := Lib.hid hgr
        clear hgr hLL hb2
        go_wp2_with fail
        refine HGR.out.mono ?_
        rintro e w3 ⟨v3, okc3, rfl, hs3, hb3⟩
        have hg3l := grpR_len css (List.range css.length) L (css.length + m)
        obtain ⟨X3, x3, rfl, hx3, rr3⟩ := hs3.reads
        obtain ⟨i9, hi9, hsz9⟩ := info_sl'
        obtain ⟨X4, hx4, hy4⟩ := RR.cut (P := Try.prog) 22 29 Try.underlying22 hi9 hsz9 X3 (css.length + m) x3 css.length (by omega) (by omega)
        rw [Nat.add_sub_cancel_left] at hx4
        have hfin := hy4 w3 _ hg3l rr3
        rw [hg3l] at hx3 ⊢
        rw [grp_drop] at hfin
        have HFIN := Lib.hid hfin
        have HB3 := Lib.hid (HB2.out.trans (hb3.mono HB2.out.size))
        have s0 : (0 : Int) ≤ (css.length : Int) := by omega
        have s1 : (css.length : Int) ≤ ((css.length + m : Nat) : Int) := by omega
        have s2 : ((css.length + m : Nat) : Int) ≤ (x3 : Int) := by omega
        have s3 : (css.length : Int) + m ≤ (x3 : Int) := by omega
        clear hs3 hb3 rr3 hfin hi9 hsz9 hy4 hg3l
        go_wp2_with fail
        go_ret2
        unfold EncPost
        rw [HER.out]
        exact ⟨X4, x3 - css.length, rfl, fun _ => ⟨by omega, HFIN.out⟩, fun h => absurd rfl h, HB3.out⟩
      · have hne : (er != 0) = true := by simp [h0]
        clear hLL hb2
        go_wp2_with fail
        go_ret2
        unfold EncPost
        rw [HER.out]
        refine ⟨none, 0, ?_, fun h => absurd h h0, fun _ => ⟨rfl, rfl⟩, HB2.out⟩
        rw [if_neg h0]
        rfl
end Go.Proofs.Ytdmfecaejdiihaa.F
