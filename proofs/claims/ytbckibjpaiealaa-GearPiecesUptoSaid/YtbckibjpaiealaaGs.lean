/- The reference's chunks, walked. -/
import Derived.Test.YtbckibjpaiealaaGh
set_option linter.unusedVariables false
set_option linter.unusedSimpArgs false
namespace Go.Proofs.Ytbckibjpaiealaa.F
open Go.RowKit Go.Proofs.YtbckibjpaiealaaW.PrintWords

/-- The chunks that end within bytes, and what is left. -/
def split (mn av mx : Nat) (tb : List Nat) : Nat → List Nat → List (List Nat) × List Nat
  | 0, r => ([], r)
  | f + 1, r =>
    if first mn av mx tb r = 0 then ([], r)
    else ((r.take (first mn av mx tb r)) :: (split mn av mx tb f (r.drop (first mn av mx tb r))).1, (split mn av mx tb f (r.drop (first mn av mx tb r))).2)
theorem first_bd {mn av mx : Nat} (tb r : List Nat) (h : first mn av mx tb r ≠ 0) : mn ≤ first mn av mx tb r ∧ first mn av mx tb r ≤ r.length := by
  unfold first at h ⊢
  cases hf : (List.range' mn (r.length + 1 - mn)).find? (endsB av mx tb r) with
  | none => rw [hf] at h; simp at h
  | some k =>
    have := List.mem_of_find?_eq_some hf
    rw [List.mem_range'_1] at this
    simp only [Option.getD_some]
    omega

section
variable {P : Program} {ops : Array Oper} {rest : List Oper} {o : Oper} {a : Act} {Q : Exit → Act → World → Prop}
theorem append_Sn {W : World} (base : Nat) (hgd : o.guard = none) (s x : Operand) (t e : TypeId)
    (ho : o.op = .call { callee := .builtin .append, args := #[s, x], argTypes := #[t, t] })
    (ht : P.underlying t = some (.slice e)) (hinfo : (P.info? e).map (fun i => (i.zero, i.size, i.bytes)) = some (some (.slice none 0 0), 1, 24))
    (v : Value) (okc : Nat → Prop) (css : List (List Nat)) (A : Option Addr) (c : Nat) (cs : List Nat) (n : Nat) (hn : cs.length = n) (hs : a.eval s = v) (B : Nat) (hx : a.eval x = .slice (some ⟨B, 0, none⟩) 1 1) (hB : B = W.heap.size)
    (HO : SRow W okc base e v css) (hr : RN .u8 W A cs) (hc : cs.length ≤ c) (hA : ∀ a, A = some a → a.block < W.heap.size ∧ v.ownBlock ≠ some a.block) (hbase : base ≤ W.heap.size) (hl : (css.length + 1) * 24 ≤ 140737488355328)
    (h : ∀ v1 w1, SRow w1 (fun k => okc k ∨ ∃ a, A = some a ∧ k = a.block) base e v1 (css ++ [cs]) → W.grownBy w1 v.ownBlock → (v1.ownBlock = v.ownBlock ∨ ∃ b, v1.ownBlock = some b ∧ W.heap.size ≤ b) → wpList P ops Q rest (a.put o.dst v1) w1) :
    wpList P ops Q (o :: rest) a (W.alloc (.cells #[.slice A n c] e)) := by
  subst hn
  exact append_S base hgd s x t e ho ht hinfo v okc css A c cs hs B hx hB HO hr hc hA hbase hl h
end
theorem Split_c (A : Option Addr) (c : Nat) (mn av mx : Nat) (tb p : List Nat) (w : World) (ht : tb.length = 256) (hb : ∀ x ∈ tb, x < 4294967296) (hr : RN .u8 w A p) (hp : ∀ x ∈ p, x < 256)
    (h1 : 1 ≤ mn) (h2 : mn ≤ mx) (h3 : mx ≤ 512) (h4 : av ≤ 256) (hn : p.length ≤ 10000000) (N : Nat) (hN : p.length < N) :
    Calls Try.prog 18 #[.agg #[.int .i64 mn, .int .i64 av, .int .i64 mx], .agg (tabA tb), .slice A p.length c] w fun e w' =>
      ∃ v A' c' okc, e = .returned (.tuple #[v, .slice A' (split mn av mx tb N p).2.length c']) ∧ SRow w' okc w.heap.size 32 v (split mn av mx tb N p).1 ∧ (∀ k, okc k → w.heap.size ≤ k) ∧ RN .u8 w' A' (split mn av mx tb N p).2 ∧ (split mn av mx tb N p).2.length ≤ c' ∧
        (∀ a, A' = some a → w.heap.size ≤ a.block ∧ a.block < w'.heap.size ∧ v.ownBlock ≠ some a.block) ∧ Below w.heap.size w w' := by
  have hm := hr.max
  have hit : (Try.prog.info? 27).map (·.size) = some (tabA tb).size := by rw [tabA_size, ht]; exact infoT
  have hfirst := fun (A : Option Addr) (c : Nat) (q : List Nat) (W : World) (hr : RN .u8 W A q) (hp : ∀ x ∈ q, x < 256) (hc : q.length ≤ c) (hn : q.length ≤ 4611686018427387904) => First_c A c mn av mx tb q W ht hb hr hp h1 h2 h3 h4 hc hn
  obtain ⟨tt, htt⟩ : ∃ tt, tabA tb = tt := ⟨_, rfl⟩
  rw [htt] at hit hfirst ⊢
  clear htt
  have HI := Lib.hid hit
  have HF := Lib.hid hfirst
  clear hit hfirst
  obtain ⟨iu8, hiu8, hsz8⟩ := info_u8'
  have HU8 := Lib.hid hiu8
  clear hiu8
  go_enter Try.func18, Try.ntmps18
  obtain ⟨W2, hW2⟩ : ∃ W2, (w.alloc (.cells #[.int .i64 mn, .int .i64 av, .int .i64 mx] 24)).alloc (.cells tt 27) = W2 := ⟨_, rfl⟩
  have hs2 : W2.heap.size = w.heap.size + 1 + 1 := by rw [← hW2]; simp
  have hB2 : Below w.heap.size w W2 := by rw [← hW2]; exact ((Below.refl _ _).alloc (Nat.le_refl _) _).alloc (by simp) _
  have hg1 : W2.heap[w.heap.size]? = some (.cells #[.int .i64 mn, .int .i64 av, .int .i64 mx] 24 (0, 0)) := by rw [← hW2]; exact heap_alloc2_old _ _ _
  have hg2 : W2.heap[w.heap.size + 1]? = some (.cells tt 27 (0, 0)) := by rw [← hW2]; exact heap_alloc2_new _ _ _
  obtain ⟨W4, hW4⟩ : ∃ W4, (W2.alloc (.cells #[] 32)).alloc (.cells #[] 5) = W4 := ⟨_, rfl⟩
  have hB24 : Below W2.heap.size W2 W4 := by rw [← hW4]; exact ((Below.refl _ _).alloc (Nat.le_refl _) _).alloc (by simp) _
  have hS4 : SRow W4 (fun _ => False) W2.heap.size 32 (.slice (some ⟨w.heap.size + 1 + 1, 0, none⟩) 0 0) [] := by
    have := (SRow.empty W2 W2.heap.size 32 (Nat.le_refl _)).below (below_alloc (Below.refl _ _) (.cells #[] 5))
    rw [hW4] at this
    simpa [hs2] using this
  have hO4 : OwnN .u8 5 W4 W2.heap.size (.slice (some ⟨w.heap.size + 1 + 1 + 1, 0, none⟩) 0 0) [] := by
    have := own_lit_of (enc := encN .u8) (W2.alloc (.cells #[] 32)) W2.heap.size 5 [] (by simp) (by simp)
    simp only [List.map_nil, List.length_nil, encs, World.size_alloc, hs2] at this
    rw [← hW4, hs2]
    exact this
  have hs4 : W4.heap.size = w.heap.size + 4 := by rw [← hW4]; simp [hs2]
  have hr4 : RN .u8 W4 A p := (hr.below hB2).below hB24
  have hwe : (((w.alloc (.cells #[.int .i64 mn, .int .i64 av, .int .i64 mx] 24)).alloc (.cells tt 27)).alloc (.cells #[] 32)).alloc (.cells #[] 5) = W4 := by rw [hW2, hW4]
  have HWE := Lib.hid hwe
  have HS2 := Lib.hid hs2
  have HS4 := Lib.hid hs4
  have HG1 := Lib.hid ((hB24.block _ (by omega)).trans hg1)
  have HG2 := Lib.hid ((hB24.block _ (by omega)).trans hg2)
  have HO4 := Lib.hid hO4
  have HSR := Lib.hid hS4
  clear hW2 hs2 hg1 hg2 hW4 hS4 hO4 hs4 hwe
  go_wp2_with (at_builtin; rw [HWE.out]; refine append_NN W2.heap.size rfl (.tmp 12) (.tmp 13) 32 5 .u8 1 rfl Try.underlying32 info_u8 (by decide) (.slice (some ⟨w.heap.size + 1 + 1 + 1, 0, none⟩) 0 0) [] p A c rfl rfl HO4.out hr4 (by have := HS4.out; have := HS2.out; omega) (by simp; omega) ?_; intro v5 w5 ho5 hg5 hat5)
  replace ho5 : OwnN .u8 5 w5 W2.heap.size v5 p := ho5
  replace hg5 : W4.grownBy w5 (some (w.heap.size + 1 + 1 + 1)) := hg5
  replace hat5 : v5.ownBlock = some (w.heap.size + 1 + 1 + 1) ∨ ∃ b, v5.ownBlock = some b ∧ W4.heap.size ≤ b := hat5
  obtain ⟨A5, c5, hv5, hc5, hr5⟩ := ho5.reads
  have hset : ∀ k, v5.ownBlock = some k → W2.heap.size ≤ k ∧ k < w5.heap.size ∧ k ≠ w.heap.size + 1 + 1 := fun k hk => by
    obtain ⟨q1, q2, _⟩ := ho5.typed k hk
    refine ⟨q1, q2, ?_⟩
    have := HS4.out
    rcases hat5 with h | ⟨b, h, hb⟩
    · rw [h] at hk; injection hk with hk; omega
    · rw [h] at hk; injection hk with hk; omega
  have hsr5 : SRow w5 (fun _ => False) W2.heap.size 32 (.slice (some ⟨w.heap.size + 1 + 1, 0, none⟩) 0 0) [] := HSR.out.move hg5.size (fun k hk => by
    rcases hk with hk | hk
    · exact hk.elim
    · have : w.heap.size + 1 + 1 = k := by simpa [Value.ownBlock] using hk
      subst this
      have := HS4.out
      exact hg5.block _ (by omega) (by simp))
  have hB5 : Below W2.heap.size W2 w5 := ⟨hg5.os.trans hB24.os, hg5.tape.trans hB24.tape, hg5.output.trans hB24.output, Nat.le_trans hB24.size hg5.size, fun k hk => (hg5.block k (Nat.lt_of_lt_of_le hk hB24.size) (by have := HS2.out; simp; omega)).trans (hB24.block k hk)⟩
  have e1 : w5.heap[w.heap.size]? = some (.cells #[.int .i64 mn, .int .i64 av, .int .i64 mx] 24 (0, 0)) := (hg5.block _ (by have := HS4.out; omega) (by simp; omega)).trans HG1.out
  have e2 : w5.heap[w.heap.size + 1]? = some (.cells tt 27 (0, 0)) := (hg5.block _ (by have := HS4.out; omega) (by simp)).trans HG2.out
  have HSET := Lib.hid hset
  have HV5 := Lib.hid hv5
  have E1 := Lib.hid e1
  have E2 := Lib.hid e2
  have HSR5 := Lib.hid hsr5
  have HS5 := Lib.hid hg5.size
  clear hset e1 e2 hsr5 hat5 ho5 HG1 HG2 HO4 HSR hr4 HWE
  rw [hv5]
  clear hv5
  go_wp2_with fail
  go_loopw [8, 9] (fun vo vr W => ∃ (css : List (List Nat)) (r : List Nat) (f : Nat) (okc : Nat → Prop) (Ar : Option Addr) (cr : Nat), vr = .slice Ar r.length cr ∧ r.length ≤ cr ∧ RN .u8 W Ar r ∧ (∀ x ∈ r, x < 256) ∧ r.length < f ∧ r.length ≤ p.length ∧ css.length + r.length ≤ p.length ∧
      SRow W okc W2.heap.size 32 vo css ∧ (∀ k, okc k → v5.ownBlock = some k) ∧ (∀ a, Ar = some a → v5.ownBlock = some a.block) ∧ (∀ k, vo.ownBlock = some k → v5.ownBlock ≠ some k) ∧
      (css ++ (split mn av mx tb f r).1, (split mn av mx tb f r).2) = split mn av mx tb N p ∧ Below W2.heap.size W2 W ∧ w5.heap.size ≤ W.heap.size)
    (fun _ vr _ => match vr with | .slice _ n _ => n | _ => 0)
  case atStart =>
    refine ⟨[], p, N, fun _ => False, A5, c5, rfl, hc5, hr5, hp, hN, Nat.le_refl _, by simp, HSR5.out, fun _ h => h.elim, fun a ha => by rw [HV5.out, ha]; rfl, fun k hk hk2 => ?_, by simp, hB5, Nat.le_refl _⟩
    have : w.heap.size + 1 + 1 = k := by simpa [Value.ownBlock] using hk
    exact (HSET.out k hk2).2.2 this.symm
  case round =>
    obtain ⟨css, r, f, okc, Ar, cr, rfl, hcr, hrr, hlr, hf, hrp, hcp, hsr, hok, hAr, hvo, hsp, hBW, hsW⟩ := hrel
    have HSR6 := Lib.hid hsr
    have HOK := Lib.hid hok
    have HAR := Lib.hid hAr
    have HVO := Lib.hid hvo
    have HSP := Lib.hid hsp
    clear hsr hok hAr hvo hsp
    have hs2 := HS2.out
    have f1 : wr.heap[w.heap.size]? = some (.cells #[.int .i64 mn, .int .i64 av, .int .i64 mx] 24 (0, 0)) := (hBW.block _ (by omega)).trans ((hB5.block _ (by omega)).symm.trans E1.out)
    have f2 : wr.heap[w.heap.size + 1]? = some (.cells tt 27 (0, 0)) := (hBW.block _ (by omega)).trans ((hB5.block _ (by omega)).symm.trans E2.out)
    have c0 : wr.cell? ⟨w.heap.size, 0, none⟩ = some (.int .i64 mn) := by rw [cell_of_row _ _ _ _ _ _ f1]; rfl
    have c1 : wr.cell? ⟨w.heap.size, 1, none⟩ = some (.int .i64 av) := by rw [cell_of_row _ _ _ _ _ _ f1]; rfl
    have c2 : wr.cell? ⟨w.heap.size, 2, none⟩ = some (.int .i64 mx) := by rw [cell_of_row _ _ _ _ _ _ f1]; rfl
    have F2 := Lib.hid f2
    clear f1 f2 hs2
    go_wp2_with (refine wpList_load_row rfl 27 (.tmp 4) rfl (w.heap.size + 1) rfl 27 tt (0, 0) _ F2.out Try.underlying27 rfl HI.out ?_)
    refine (HF.out Ar cr r _ hrr hlr hcr (by omega)).mono ?_
    rintro e w6 ⟨rfl, hb6⟩
    obtain ⟨k, hk⟩ : ∃ k, first mn av mx tb r = k := ⟨_, rfl⟩
    rw [hk]
    have HK := Lib.hid hk
    clear hk
    by_cases h0 : k = 0
    · have hz : ((k : Int) == 0) = true := by simp [h0]
      have H0 := Lib.hid h0
      clear h0
      go_wp2_with fail
      go_ret2
      obtain ⟨f', rfl⟩ : ∃ f', f = f' + 1 := ⟨f - 1, by omega⟩
      have hsp := HSP.out
      have hz0 : first mn av mx tb r = 0 := HK.out.trans H0.out
      simp only [split, hz0, if_true, List.append_nil] at hsp
      rw [← hsp]
      have hs2 := HS2.out
      refine ⟨u8, Ar, cr, okc, rfl, (HSR6.out.below hb6).lower (by omega), fun k hk => ?_, hrr.below hb6, hcr, fun a ha => ⟨?_, ?_, fun h => HVO.out _ h (HAR.out a ha)⟩, (hB2.trans (hBW.mono (by omega))).trans (hb6.mono (by have := hBW.size; omega))⟩
      · have := (HSET.out k (HOK.out k hk)).1; omega
      · have := (HSET.out _ (HAR.out a ha)).1; omega
      · have := (HSET.out _ (HAR.out a ha)).2.1; have := hb6.size; omega
    · have hz : ((k : Int) == 0) = false := beq_eq_false_iff_ne.2 (by omega)
      have hbd := first_bd tb r (by rw [HK.out]; exact h0)
      rw [HK.out] at hbd
      have H0 := Lib.hid h0
      clear h0
      obtain ⟨A', hcut, hAb, hread⟩ := RN.cut (P := Try.prog) 32 5 .u8 Try.underlying32 HU8.out hsz8 Ar r.length cr k hbd.2
      have hkc : k ≤ cr := by omega
      have hlk : (r.take k).length = k := by rw [List.length_take]; omega
      have hsr6 : SRow w6 okc W2.heap.size 32 u8 css := HSR6.out.below hb6
      have hr6 : RN .u8 w6 Ar (r.take k) := (hrr.below hb6).take k hbd.2
      have hs6 := hb6.size
      have HSR7 := Lib.hid hsr6
      have HR6 := Lib.hid hr6
      have hap : ∀ a, Ar = some a → a.block < w6.heap.size ∧ u8.ownBlock ≠ some a.block := fun a ha => ⟨by have := (HSET.out _ (HAR.out a ha)).2.1; have := HS5.out; omega, fun h => HVO.out _ h (HAR.out a ha)⟩
      have HAP := Lib.hid hap
      have HLK := Lib.hid hlk
      clear hsr6 hr6 hap hlk
      have hsz : W2.heap.size ≤ w6.heap.size := by have := hBW.size; omega
      go_wp2_with (at_builtin; refine append_Sn W2.heap.size rfl (.tmp 23) (.tmp 27) 34 32 rfl Try.underlying34 info_bytes u8 okc css Ar cr (r.take k) k HLK.out rfl w6.heap.size rfl rfl HSR7.out HR6.out (by rw [HLK.out]; exact hkc) HAP.out hsz (by omega) ?_; intro v7 w7 hsr7 hg7 hat7)
      obtain ⟨f', rfl⟩ : ∃ f', f = f' + 1 := ⟨f - 1, by omega⟩
      have hsp := HSP.out
      simp only [split, HK.out, H0.out, if_false] at hsp
      have hs2 := HS2.out
      have hld : (r.drop k).length = r.length - k := List.length_drop ..
      have hr7 : RN .u8 w7 Ar r := (hrr.below hb6).move (fun a ha => by
        have := HAP.out a ha
        exact hg7.block _ this.1 (fun h => this.2 h.symm))
      have h0 := H0.out
      refine ⟨⟨css ++ [r.take k], r.drop k, f', _, A', cr - k, by rw [hld], by rw [hld]; omega, hread w7 r rfl hcr hr7, fun x hx => hlr x (List.mem_of_mem_drop hx), by rw [hld]; omega, by rw [hld]; omega, by rw [hld]; simp; omega, hsr7, ?_, ?_, ?_, by rw [← hsp]; simp, ?_, ?_⟩, ?_⟩
      · rintro q (hq | ⟨a, ha, rfl⟩)
        · exact HOK.out q hq
        · exact HAR.out a ha
      · intro a ha
        obtain ⟨b, hb, hbb⟩ := hAb a ha
        rw [hbb]; exact HAR.out b hb
      · intro q hq hq5
        rcases hat7 with h | ⟨b, h, hb⟩
        · exact HVO.out q (h ▸ hq) hq5
        · have := (HSET.out q hq5).2.1
          rw [h] at hq; injection hq with hq
          have := hb6.size
          omega
      · refine ⟨hg7.os.trans (hb6.os.trans hBW.os), hg7.tape.trans (hb6.tape.trans hBW.tape), hg7.output.trans (hb6.output.trans hBW.output), by have := hg7.size; omega, fun q hq => ?_⟩
        refine (hg7.block q (by omega) ?_).trans ((hb6.block q (by have := hBW.size; omega)).trans (hBW.block q hq))
        intro h
        have := (HSR7.out.typed q h.symm).1
        omega
      · have := hg7.size; have := hb6.size; omega
      · show r.length - k < r.length
        omega


end Go.Proofs.Ytbckibjpaiealaa.F
