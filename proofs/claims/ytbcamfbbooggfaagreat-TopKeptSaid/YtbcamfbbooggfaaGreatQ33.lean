/- Part 33 of the proof: TGs, TGt, TGf, TGx, TGv, TGr, TGW. -/
import Derived.Test.YtbcamfbbooggfaaGreatQ32
import Derived.StillTailTactics
import Derived.RangeFuncBox
import Derived.RegionTactic
import Derived.BigRegion
import Derived.StillTactics
import Derived.Deep.RegionHeldLaw
import Derived.Deep.AppendLies
import Derived.Great.BuildSlice
import Derived.Laws.Tables
import Derived.Lib.SliceRun
import Derived.Lib.SlBytesConst
import Derived.Stop.BytesEq

section
/- The reference's chunks, walked. -/
set_option linter.unusedVariables false
set_option linter.unusedSimpArgs false
namespace Go.Proofs.YtbcamfbbooggfaaGreat.F
open Go.RowKit Go.Proofs.YtbcamfbbooggfaaGreatW.PrintWords

/-- The chunks that end within bytes, and what is left. -/
def split (mn av mx : Nat) (tb : List Nat) : Nat → List Nat → List (List Nat) × List Nat
  | 0, r => ([], r)
  | f + 1, r =>
    if first mn av mx tb r = 0 then ([], r)
    else ((r.take (first mn av mx tb r)) :: (split mn av mx tb f (r.drop (first mn av mx tb r))).1, (split mn av mx tb f (r.drop (first mn av mx tb r))).2)
theorem first_bd {mn av mx : Nat} (tb r : List Nat) (h : first mn av mx tb r ≠ 0) : mn ≤ first mn av mx tb r ∧ first mn av mx tb r ≤ r.length := by
  unfold first at h ⊢
  cases hf : (List.range' mn (r.length + 1 - mn)).find? (endsB av mx tb r) with
  | none => rw [hf] at h; simp at h
  | some k =>
    have := List.mem_of_find?_eq_some hf
    rw [List.mem_range'_1] at this
    simp only [Option.getD_some]
    omega

section
variable {P : Program} {ops : Array Oper} {rest : List Oper} {o : Oper} {a : Act} {Q : Exit → Act → World → Prop}
theorem append_Sn {W : World} (base : Nat) (hgd : o.guard = none) (s x : Operand) (t e : TypeId)
    (ho : o.op = .call { callee := .builtin .append, args := #[s, x], argTypes := #[t, t] })
    (ht : P.underlying t = some (.slice e)) (hinfo : (P.info? e).map (fun i => (i.zero, i.size, i.bytes)) = some (some (.slice none 0 0), 1, 24))
    (v : Value) (okc : Nat → Prop) (css : List (List Nat)) (A : Option Addr) (c : Nat) (cs : List Nat) (n : Nat) (hn : cs.length = n) (hs : a.eval s = v) (B : Nat) (hx : a.eval x = .slice (some ⟨B, 0, none⟩) 1 1) (hB : B = W.heap.size)
    (HO : SRow W okc base e v css) (hr : RN .u8 W A cs) (hc : cs.length ≤ c) (hA : ∀ a, A = some a → a.block < W.heap.size ∧ v.ownBlock ≠ some a.block) (hbase : base ≤ W.heap.size) (hl : (css.length + 1) * 24 ≤ 140737488355328)
    (h : ∀ v1 w1, SRow w1 (fun k => okc k ∨ ∃ a, A = some a ∧ k = a.block) base e v1 (css ++ [cs]) → W.grownBy w1 v.ownBlock → (v1.ownBlock = v.ownBlock ∨ ∃ b, v1.ownBlock = some b ∧ W.heap.size ≤ b) → wpList P ops Q rest (a.put o.dst v1) w1) :
    wpList P ops Q (o :: rest) a (W.alloc (.cells #[.slice A n c] e)) := by
  subst hn
  exact append_S base hgd s x t e ho ht hinfo v okc css A c cs hs B hx hB HO hr hc hA hbase hl h
end
theorem Split_c (A : Option Addr) (c : Nat) (mn av mx : Nat) (tb p : List Nat) (w : World) (ht : tb.length = 256) (hb : ∀ x ∈ tb, x < 4294967296) (hr : RN .u8 w A p) (hp : ∀ x ∈ p, x < 256)
    (h1 : 1 ≤ mn) (h2 : mn ≤ mx) (h3 : mx ≤ 512) (h4 : av ≤ 256) (hn : p.length ≤ 10000000) (N : Nat) (hN : p.length < N) :
    Calls Tryz.prog 24 #[.agg #[.int .i64 mn, .int .i64 av, .int .i64 mx], .agg (tabA tb), .slice A p.length c] w fun e w' =>
      ∃ v A' c' okc, e = .returned (.tuple #[v, .slice A' (split mn av mx tb N p).2.length c']) ∧ SRow w' okc w.heap.size 25 v (split mn av mx tb N p).1 ∧ (∀ k, okc k → w.heap.size ≤ k) ∧ RN .u8 w' A' (split mn av mx tb N p).2 ∧ (split mn av mx tb N p).2.length ≤ c' ∧
        (∀ a, A' = some a → w.heap.size ≤ a.block ∧ a.block < w'.heap.size ∧ v.ownBlock ≠ some a.block) ∧ Below w.heap.size w w' := by
  have hm := hr.max
  have hit : (Tryz.prog.info? 35).map (·.size) = some (tabA tb).size := by rw [tabA_size, ht]; exact infoT
  have hfirst := fun (A : Option Addr) (c : Nat) (q : List Nat) (W : World) (hr : RN .u8 W A q) (hp : ∀ x ∈ q, x < 256) (hc : q.length ≤ c) (hn : q.length ≤ 4611686018427387904) => First_c A c mn av mx tb q W ht hb hr hp h1 h2 h3 h4 hc hn
  obtain ⟨tt, htt⟩ : ∃ tt, tabA tb = tt := ⟨_, rfl⟩
  rw [htt] at hit hfirst ⊢
  clear htt
  have HI := Lib.hid hit
  have HF := Lib.hid hfirst
  clear hit hfirst
  obtain ⟨iu8, hiu8, hsz8⟩ := info_u8'
  have HU8 := Lib.hid hiu8
  clear hiu8
  go_enter Tryz.func24, Tryz.ntmps24
  obtain ⟨W2, hW2⟩ : ∃ W2, (w.alloc (.cells #[.int .i64 mn, .int .i64 av, .int .i64 mx] 23)).alloc (.cells tt 35) = W2 := ⟨_, rfl⟩
  have hs2 : W2.heap.size = w.heap.size + 1 + 1 := by rw [← hW2]; simp
  have hB2 : Below w.heap.size w W2 := by rw [← hW2]; exact ((Below.refl _ _).alloc (Nat.le_refl _) _).alloc (by simp) _
  have hg1 : W2.heap[w.heap.size]? = some (.cells #[.int .i64 mn, .int .i64 av, .int .i64 mx] 23 (0, 0)) := by rw [← hW2]; exact heap_alloc2_old _ _ _
  have hg2 : W2.heap[w.heap.size + 1]? = some (.cells tt 35 (0, 0)) := by rw [← hW2]; exact heap_alloc2_new _ _ _
  obtain ⟨W4, hW4⟩ : ∃ W4, (W2.alloc (.cells #[] 25)).alloc (.cells #[] 5) = W4 := ⟨_, rfl⟩
  have hB24 : Below W2.heap.size W2 W4 := by rw [← hW4]; exact ((Below.refl _ _).alloc (Nat.le_refl _) _).alloc (by simp) _
  have hS4 : SRow W4 (fun _ => False) W2.heap.size 25 (.slice (some ⟨w.heap.size + 1 + 1, 0, none⟩) 0 0) [] := by
    have := (SRow.empty W2 W2.heap.size 25 (Nat.le_refl _)).below (below_alloc (Below.refl _ _) (.cells #[] 5))
    rw [hW4] at this
    simpa [hs2] using this
  have hO4 : OwnN .u8 5 W4 W2.heap.size (.slice (some ⟨w.heap.size + 1 + 1 + 1, 0, none⟩) 0 0) [] := by
    have := own_lit_of (enc := encN .u8) (W2.alloc (.cells #[] 25)) W2.heap.size 5 [] (by simp) (by simp)
    simp only [List.map_nil, List.length_nil, encs, World.size_alloc, hs2] at this
    rw [← hW4, hs2]
    exact this
  have hs4 : W4.heap.size = w.heap.size + 4 := by rw [← hW4]; simp [hs2]
  have hr4 : RN .u8 W4 A p := (hr.below hB2).below hB24
  have hwe : (((w.alloc (.cells #[.int .i64 mn, .int .i64 av, .int .i64 mx] 23)).alloc (.cells tt 35)).alloc (.cells #[] 25)).alloc (.cells #[] 5) = W4 := by rw [hW2, hW4]
  have HWE := Lib.hid hwe
  have HS2 := Lib.hid hs2
  have HS4 := Lib.hid hs4
  have HG1 := Lib.hid ((hB24.block _ (by omega)).trans hg1)
  have HG2 := Lib.hid ((hB24.block _ (by omega)).trans hg2)
  have HO4 := Lib.hid hO4
  have HSR := Lib.hid hS4
  clear hW2 hs2 hg1 hg2 hW4 hS4 hO4 hs4 hwe
  go_wp2_with (at_builtin; rw [HWE.out]; refine append_NN W2.heap.size rfl (.tmp 12) (.tmp 13) 25 5 .u8 1 rfl Tryz.underlying25 info_u8 (by decide) (.slice (some ⟨w.heap.size + 1 + 1 + 1, 0, none⟩) 0 0) [] p A c rfl rfl HO4.out hr4 (by have := HS4.out; have := HS2.out; omega) (by simp; omega) ?_; intro v5 w5 ho5 hg5 hat5)
  replace ho5 : OwnN .u8 5 w5 W2.heap.size v5 p := ho5
  replace hg5 : W4.grownBy w5 (some (w.heap.size + 1 + 1 + 1)) := hg5
  replace hat5 : v5.ownBlock = some (w.heap.size + 1 + 1 + 1) ∨ ∃ b, v5.ownBlock = some b ∧ W4.heap.size ≤ b := hat5
  obtain ⟨A5, c5, hv5, hc5, hr5⟩ := ho5.reads
  have hset : ∀ k, v5.ownBlock = some k → W2.heap.size ≤ k ∧ k < w5.heap.size ∧ k ≠ w.heap.size + 1 + 1 := fun k hk => by
    obtain ⟨q1, q2, _⟩ := ho5.typed k hk
    refine ⟨q1, q2, ?_⟩
    have := HS4.out
    rcases hat5 with h | ⟨b, h, hb⟩
    · rw [h] at hk; injection hk with hk; omega
    · rw [h] at hk; injection hk with hk; omega
  have hsr5 : SRow w5 (fun _ => False) W2.heap.size 25 (.slice (some ⟨w.heap.size + 1 + 1, 0, none⟩) 0 0) [] := HSR.out.move hg5.size (fun k hk => by
    rcases hk with hk | hk
    · exact hk.elim
    · have : w.heap.size + 1 + 1 = k := by simpa [Value.ownBlock] using hk
      subst this
      have := HS4.out
      exact hg5.block _ (by omega) (by simp))
  have hB5 : Below W2.heap.size W2 w5 := ⟨hg5.os.trans hB24.os, hg5.tape.trans hB24.tape, hg5.output.trans hB24.output, Nat.le_trans hB24.size hg5.size, fun k hk => (hg5.block k (Nat.lt_of_lt_of_le hk hB24.size) (by have := HS2.out; simp; omega)).trans (hB24.block k hk)⟩
  have e1 : w5.heap[w.heap.size]? = some (.cells #[.int .i64 mn, .int .i64 av, .int .i64 mx] 23 (0, 0)) := (hg5.block _ (by have := HS4.out; omega) (by simp; omega)).trans HG1.out
  have e2 : w5.heap[w.heap.size + 1]? = some (.cells tt 35 (0, 0)) := (hg5.block _ (by have := HS4.out; omega) (by simp)).trans HG2.out
  have HSET := Lib.hid hset
  have HV5 := Lib.hid hv5
  have E1 := Lib.hid e1
  have E2 := Lib.hid e2
  have HSR5 := Lib.hid hsr5
  have HS5 := Lib.hid hg5.size
  clear hset e1 e2 hsr5 hat5 ho5 HG1 HG2 HO4 HSR hr4 HWE
  rw [hv5]
  clear hv5
  go_wp2_with fail
  go_loopw [8, 9] (fun vo vr W => ∃ (css : List (List Nat)) (r : List Nat) (f : Nat) (okc : Nat → Prop) (Ar : Option Addr) (cr : Nat), vr = .slice Ar r.length cr ∧ r.length ≤ cr ∧ RN .u8 W Ar r ∧ (∀ x ∈ r, x < 256) ∧ r.length < f ∧ r.length ≤ p.length ∧ css.length + r.length ≤ p.length ∧
      SRow W okc W2.heap.size 25 vo css ∧ (∀ k, okc k → v5.ownBlock = some k) ∧ (∀ a, Ar = some a → v5.ownBlock = some a.block) ∧ (∀ k, vo.ownBlock = some k → v5.ownBlock ≠ some k) ∧
      (css ++ (split mn av mx tb f r).1, (split mn av mx tb f r).2) = split mn av mx tb N p ∧ Below W2.heap.size W2 W ∧ w5.heap.size ≤ W.heap.size)
    (fun _ vr _ => match vr with | .slice _ n _ => n | _ => 0)
  case atStart =>
    refine ⟨[], p, N, fun _ => False, A5, c5, rfl, hc5, hr5, hp, hN, Nat.le_refl _, by simp, HSR5.out, fun _ h => h.elim, fun a ha => by rw [HV5.out, ha]; rfl, fun k hk hk2 => ?_, by simp, hB5, Nat.le_refl _⟩
    have : w.heap.size + 1 + 1 = k := by simpa [Value.ownBlock] using hk
    exact (HSET.out k hk2).2.2 this.symm
  case round =>
    obtain ⟨css, r, f, okc, Ar, cr, rfl, hcr, hrr, hlr, hf, hrp, hcp, hsr, hok, hAr, hvo, hsp, hBW, hsW⟩ := hrel
    have HSR6 := Lib.hid hsr
    have HOK := Lib.hid hok
    have HAR := Lib.hid hAr
    have HVO := Lib.hid hvo
    have HSP := Lib.hid hsp
    clear hsr hok hAr hvo hsp
    have hs2 := HS2.out
    have f1 : wr.heap[w.heap.size]? = some (.cells #[.int .i64 mn, .int .i64 av, .int .i64 mx] 23 (0, 0)) := (hBW.block _ (by omega)).trans ((hB5.block _ (by omega)).symm.trans E1.out)
    have f2 : wr.heap[w.heap.size + 1]? = some (.cells tt 35 (0, 0)) := (hBW.block _ (by omega)).trans ((hB5.block _ (by omega)).symm.trans E2.out)
    have c0 : wr.cell? ⟨w.heap.size, 0, none⟩ = some (.int .i64 mn) := by rw [cell_of_row _ _ _ _ _ _ f1]; rfl
    have c1 : wr.cell? ⟨w.heap.size, 1, none⟩ = some (.int .i64 av) := by rw [cell_of_row _ _ _ _ _ _ f1]; rfl
    have c2 : wr.cell? ⟨w.heap.size, 2, none⟩ = some (.int .i64 mx) := by rw [cell_of_row _ _ _ _ _ _ f1]; rfl
    have F2 := Lib.hid f2
    clear f1 f2 hs2
    go_wp2_with (refine wpList_load_row rfl 35 (.tmp 4) rfl (w.heap.size + 1) rfl 35 tt (0, 0) _ F2.out Tryz.underlying35 rfl HI.out ?_)
    refine (HF.out Ar cr r _ hrr hlr hcr (by omega)).mono ?_
    rintro e w6 ⟨rfl, hb6⟩
    obtain ⟨k, hk⟩ : ∃ k, first mn av mx tb r = k := ⟨_, rfl⟩
    rw [hk]
    have HK := Lib.hid hk
    clear hk
    by_cases h0 : k = 0
    · have hz : ((k : Int) == 0) = true := by simp [h0]
      have H0 := Lib.hid h0
      clear h0
      go_wp2_with fail
      go_ret2
      obtain ⟨f', rfl⟩ : ∃ f', f = f' + 1 := ⟨f - 1, by omega⟩
      have hsp := HSP.out
      have hz0 : first mn av mx tb r = 0 := HK.out.trans H0.out
      simp only [split, hz0, if_true, List.append_nil] at hsp
      rw [← hsp]
      have hs2 := HS2.out
      refine ⟨u8, Ar, cr, okc, rfl, (HSR6.out.below hb6).lower (by omega), fun k hk => ?_, hrr.below hb6, hcr, fun a ha => ⟨?_, ?_, fun h => HVO.out _ h (HAR.out a ha)⟩, (hB2.trans (hBW.mono (by omega))).trans (hb6.mono (by have := hBW.size; omega))⟩
      · have := (HSET.out k (HOK.out k hk)).1; omega
      · have := (HSET.out _ (HAR.out a ha)).1; omega
      · have := (HSET.out _ (HAR.out a ha)).2.1; have := hb6.size; omega
    · have hz : ((k : Int) == 0) = false := beq_eq_false_iff_ne.2 (by omega)
      have hbd := first_bd tb r (by rw [HK.out]; exact h0)
      rw [HK.out] at hbd
      have H0 := Lib.hid h0
      clear h0
      obtain ⟨A', hcut, hAb, hread⟩ := RN.cut (P := Tryz.prog) 25 5 .u8 Tryz.underlying25 HU8.out hsz8 Ar r.length cr k hbd.2
      have hkc : k ≤ cr := by omega
      have hlk : (r.take k).length = k := by rw [List.length_take]; omega
      have hsr6 : SRow w6 okc W2.heap.size 25 u8 css := HSR6.out.below hb6
      have hr6 : RN .u8 w6 Ar (r.take k) := (hrr.below hb6).take k hbd.2
      have hs6 := hb6.size
      have HSR7 := Lib.hid hsr6
      have HR6 := Lib.hid hr6
      have hap : ∀ a, Ar = some a → a.block < w6.heap.size ∧ u8.ownBlock ≠ some a.block := fun a ha => ⟨by have := (HSET.out _ (HAR.out a ha)).2.1; have := HS5.out; omega, fun h => HVO.out _ h (HAR.out a ha)⟩
      have HAP := Lib.hid hap
      have HLK := Lib.hid hlk
      clear hsr6 hr6 hap hlk
      have hsz : W2.heap.size ≤ w6.heap.size := by have := hBW.size; omega
      go_wp2_with (at_builtin; refine append_Sn W2.heap.size rfl (.tmp 23) (.tmp 27) 30 25 rfl Tryz.underlying30 info_bytes u8 okc css Ar cr (r.take k) k HLK.out rfl w6.heap.size rfl rfl HSR7.out HR6.out (by rw [HLK.out]; exact hkc) HAP.out hsz (by omega) ?_; intro v7 w7 hsr7 hg7 hat7)
      obtain ⟨f', rfl⟩ : ∃ f', f = f' + 1 := ⟨f - 1, by omega⟩
      have hsp := HSP.out
      simp only [split, HK.out, H0.out, if_false] at hsp
      have hs2 := HS2.out
      have hld : (r.drop k).length = r.length - k := List.length_drop ..
      have hr7 : RN .u8 w7 Ar r := (hrr.below hb6).move (fun a ha => by
        have := HAP.out a ha
        exact hg7.block _ this.1 (fun h => this.2 h.symm))
      have h0 := H0.out
      refine ⟨⟨css ++ [r.take k], r.drop k, f', _, A', cr - k, by rw [hld], by rw [hld]; omega, hread w7 r rfl hcr hr7, fun x hx => hlr x (List.mem_of_mem_drop hx), by rw [hld]; omega, by rw [hld]; omega, by rw [hld]; simp; omega, hsr7, ?_, ?_, ?_, by rw [← hsp]; simp, ?_, ?_⟩, ?_⟩
      · rintro q (hq | ⟨a, ha, rfl⟩)
        · exact HOK.out q hq
        · exact HAR.out a ha
      · intro a ha
        obtain ⟨b, hb, hbb⟩ := hAb a ha
        rw [hbb]; exact HAR.out b hb
      · intro q hq hq5
        rcases hat7 with h | ⟨b, h, hb⟩
        · exact HVO.out q (h ▸ hq) hq5
        · have := (HSET.out q hq5).2.1
          rw [h] at hq; injection hq with hq
          have := hb6.size
          omega
      · refine ⟨hg7.os.trans (hb6.os.trans hBW.os), hg7.tape.trans (hb6.tape.trans hBW.tape), hg7.output.trans (hb6.output.trans hBW.output), by have := hg7.size; omega, fun q hq => ?_⟩
        refine (hg7.block q (by omega) ?_).trans ((hb6.block q (by have := hBW.size; omega)).trans (hBW.block q hq))
        intro h
        have := (HSR7.out.typed q h.symm).1
        omega
      · have := hg7.size; have := hb6.size; omega
      · show r.length - k < r.length
        omega


end Go.Proofs.YtbcamfbbooggfaaGreat.F
end

section
/- A cutter's object; a byte taken. -/
set_option linter.unusedVariables false
set_option linter.unusedSimpArgs false
namespace Go.Proofs.YtbcamfbbooggfaaGreat.F
open Go.RowKit Go.Proofs.YtbcamfbbooggfaaGreatW.PrintWords

/-- Does a chunk end behind these bytes? -/
def endsAt (mn av mx : Nat) (tb q : List Nat) : Bool := decide (mn ≤ q.length) && (decide (q.length = mx) || decide (ghash tb q < 4294967296 / av))

end Go.Proofs.YtbcamfbbooggfaaGreat.F
end

section
/- The bytes fed. -/
set_option linter.unusedVariables false
set_option linter.unusedSimpArgs false
namespace Go.Proofs.YtbcamfbbooggfaaGreat.F
open Go.RowKit Go.Proofs.YtbcamfbbooggfaaGreatW.PrintWords

def gstep (mn av mx : Nat) (tb : List Nat) (s : List (List Nat) × List Nat) (b : Nat) : List (List Nat) × List Nat :=
  if endsAt mn av mx tb (s.2 ++ [b]) = true then (s.1 ++ [s.2 ++ [b]], []) else (s.1, s.2 ++ [b])
end Go.Proofs.YtbcamfbbooggfaaGreat.F
end

section
/- Plain laws: fed bytes are split as the document says. -/
set_option linter.unusedVariables false
set_option linter.unusedSimpArgs false
namespace Go.Proofs.YtbcamfbbooggfaaGreat.F

theorem first_zero {mn av mx : Nat} {tb r : List Nat} (h1 : 1 ≤ mn) : first mn av mx tb r = 0 ↔ ∀ k, mn ≤ k → k ≤ r.length → endsB av mx tb r k = false := by
  unfold first
  cases hf : (List.range' mn (r.length + 1 - mn)).find? (endsB av mx tb r) with
  | none =>
    rw [List.find?_range'_eq_none] at hf
    simp only [Option.getD_none, true_iff]
    intro k hk hl
    have := hf k hk (by omega)
    simpa using this
  | some k =>
    rw [List.find?_range'_eq_some] at hf
    obtain ⟨h2, h3, _⟩ := hf
    rw [List.mem_range'_1] at h3
    simp only [Option.getD_some]
    constructor
    · intro h; omega
    · intro h
      have := h k h3.1 (by omega)
      rw [this] at h2; cases h2
theorem first_is {mn av mx : Nat} {tb r : List Nat} (k : Nat) (hk : mn ≤ k) (hl : k ≤ r.length) (he : endsB av mx tb r k = true) (hn : ∀ j, mn ≤ j → j < k → endsB av mx tb r j = false) : first mn av mx tb r = k := by
  unfold first
  have : (List.range' mn (r.length + 1 - mn)).find? (endsB av mx tb r) = some k := by
    rw [List.find?_range'_eq_some]
    refine ⟨he, ?_, fun j h1 h2 => by rw [hn j h1 h2]; rfl⟩
    rw [List.mem_range'_1]; omega
  rw [this]; rfl
theorem endsB_append {av mx : Nat} {tb xs p : List Nat} {k : Nat} (h : k ≤ xs.length) : endsB av mx tb (xs ++ p) k = endsB av mx tb xs k := by
  unfold endsB
  rw [List.take_append_of_le_length h]
theorem lt_div (g av : Nat) (h : 1 ≤ av) (hd : av ∣ 4294967296) : (g < 4294967296 / av) ↔ g * av < 4294967296 := by
  obtain ⟨q, hq⟩ := hd
  rw [hq, Nat.mul_div_cancel_left _ (by omega), Nat.mul_comm g av]
  exact (Nat.mul_lt_mul_left (by omega)).symm
theorem endsAt_eq {mn av mx : Nat} {tb xs : List Nat} (h : 1 ≤ av) (hd : av ∣ 4294967296) : endsAt mn av mx tb xs = (decide (mn ≤ xs.length) && endsB av mx tb xs xs.length) := by
  unfold endsAt endsB
  rw [List.take_length, decide_eq_decide.2 (lt_div _ _ h hd)]
theorem split_zero {mn av mx : Nat} {tb xs : List Nat} (N : Nat) (h : first mn av mx tb xs = 0) : split mn av mx tb N xs = ([], xs) := by
  cases N with
  | zero => rfl
  | succ N => simp [split, h]
/-- Fed bytes are split as the document says. -/
theorem fold_split (mn av mx : Nat) (tb : List Nat) (h1 : 1 ≤ mn) (hav : 1 ≤ av) (hd : av ∣ 4294967296) (p : List Nat) : ∀ (css : List (List Nat)) (xs : List Nat) (N : Nat), first mn av mx tb xs = 0 → (xs ++ p).length < N →
    p.foldl (gstep mn av mx tb) (css, xs) = (css ++ (split mn av mx tb N (xs ++ p)).1, (split mn av mx tb N (xs ++ p)).2) := by
  induction p with
  | nil => intro css xs N h _; rw [List.append_nil, split_zero N h]; simp
  | cons b p ih =>
    intro css xs N h hN
    have e1 : xs ++ b :: p = (xs ++ [b]) ++ p := by simp
    rw [List.foldl_cons, e1]
    rw [e1] at hN
    have hz := (first_zero h1).1 h
    rw [show gstep mn av mx tb (css, xs) b = if endsAt mn av mx tb (xs ++ [b]) = true then (css ++ [xs ++ [b]], []) else (css, xs ++ [b]) from rfl, endsAt_eq hav hd]
    by_cases he : (decide (mn ≤ (xs ++ [b]).length) && endsB av mx tb (xs ++ [b]) (xs ++ [b]).length) = true
    · rw [if_pos he]
      simp only [Bool.and_eq_true, decide_eq_true_eq] at he
      have hf : first mn av mx tb (xs ++ [b] ++ p) = (xs ++ [b]).length := by
        refine first_is _ he.1 (by simp) (by rw [endsB_append (Nat.le_refl _)]; exact he.2) (fun j hj hj2 => ?_)
        have hj3 : j ≤ xs.length := by simp at hj2; omega
        rw [List.append_assoc, endsB_append hj3]
        exact hz j hj hj3
      obtain ⟨N', rfl⟩ : ∃ N', N = N' + 1 := ⟨N - 1, by omega⟩
      have h0 : first mn av mx tb [] = 0 := (first_zero h1).2 (fun k hk hk2 => by simp at hk2; omega)
      have hih := ih (css ++ [xs ++ [b]]) [] N' h0 (by simp at hN ⊢; omega)
      rw [hih]
      simp only [split, hf]
      rw [if_neg (by simp), List.take_left', List.drop_left']
      · simp
      · rfl
      · rfl
    · rw [if_neg he]
      simp only [Bool.and_eq_true, decide_eq_true_eq, not_and, Bool.not_eq_true] at he
      refine ih css (xs ++ [b]) N ((first_zero h1).2 (fun k hk hk2 => ?_)) hN
      by_cases hk3 : k = (xs ++ [b]).length
      · subst hk3; exact he hk
      · have hk4 : k ≤ xs.length := by simp at hk2 hk3; omega
        rw [endsB_append hk4]; exact hz k hk hk4
theorem isPow_dvd {n : Nat} (h : isPow (n : Int) = true) : 1 ≤ n ∧ n ≤ 256 ∧ n ∣ 4294967296 := by
  have h1 := isPow_range h
  refine ⟨by omega, by omega, ?_⟩
  unfold isPow at h
  rw [List.any_eq_true] at h
  obtain ⟨k, hk, he⟩ := h
  have hk' := List.mem_range.1 hk
  have : n = 2 ^ k := by
    have := eq_of_beq he
    exact_mod_cast this
  rw [this, show 4294967296 = 2 ^ 32 from rfl]
  exact Nat.pow_dvd_pow 2 (by omega)
/-- The chunks of a text. -/
def chunks (mn av mx : Nat) (tb p : List Nat) : List (List Nat) :=
  (p.foldl (gstep mn av mx tb) ([], [])).1 ++ if 0 < (p.foldl (gstep mn av mx tb) ([], [])).2.length then [(p.foldl (gstep mn av mx tb) ([], [])).2] else []
theorem fold_nil (mn av mx : Nat) (tb p : List Nat) (h1 : 1 ≤ mn) (hav : 1 ≤ av) (hd : av ∣ 4294967296) (N : Nat) (hN : p.length < N) : p.foldl (gstep mn av mx tb) ([], []) = split mn av mx tb N p := by
  have h0 : first mn av mx tb [] = 0 := (first_zero h1).2 (fun k hk hk2 => by simp at hk2; omega)
  have := fold_split mn av mx tb h1 hav hd p [] [] N h0 (by simpa using hN)
  simpa using this
end Go.Proofs.YtbcamfbbooggfaaGreat.F
end

section
/- What must be whatever is asked; the chunks by the document. -/
set_option linter.unusedVariables false
set_option linter.unusedSimpArgs false
namespace Go.Proofs.YtbcamfbbooggfaaGreat.F
open Go.RowKit Go.Proofs.YtbcamfbbooggfaaGreatW.PrintWords

theorem RN.cells {k : IntKind} {W W' : World} {A : Option Addr} {xs : List Nat} (h : RN k W A xs) (hm : ∀ a, A = some a → ∀ j, W'.cell? (a.add j) = W.cell? (a.add j)) : RN k W' A xs := by
  have hr := Kd.reads_of_C (enc := encN k) (d := 0) (h1 := fun _ => rfl) h
  refine Kd.C_of_reads (d := 0) ⟨hr.1, hr.2.1, fun hp => ?_⟩
  obtain ⟨ad, e, hc⟩ := hr.2.2 hp
  exact ⟨ad, e, fun j hj => (hm ad e j).trans (hc j hj)⟩
end Go.Proofs.YtbcamfbbooggfaaGreat.F
end

section
/- The document's chunks, and are rows the same, walked. -/
set_option linter.unusedVariables false
set_option linter.unusedSimpArgs false
namespace Go.Proofs.YtbcamfbbooggfaaGreat.F
open Go.RowKit Go.Proofs.YtbcamfbbooggfaaGreatW.PrintWords

set_option maxRecDepth 20000 in
theorem refAll_bad (mn av mx : Int) (tb : List Nat) (A : Option Addr) (c n : Nat) (W : World) (ht : tb.length = 256) (h : cutOk mn av mx = false) :
    Calls Tryz.prog 4 #[.agg #[.int .i64 mn, .int .i64 av, .int .i64 mx], .agg (tabA tb), .slice A n c] W fun e w' => e = .returned (.tuple #[.slice none 0 0, .int .i64 2]) ∧ Below W.heap.size W w' := by
  have hck : checkV mn av mx = 2 := by unfold checkV; rw [h]; rfl
  have hnew := fun W => refCheck_c mn av mx W
  rw [hck] at hnew
  have hit : (Tryz.prog.info? 35).map (·.size) = some (tabA tb).size := by rw [tabA_size, ht]; exact infoT
  obtain ⟨tt, htt⟩ : ∃ tt, tabA tb = tt := ⟨_, rfl⟩
  rw [htt] at hit ⊢
  clear htt
  have HI := Lib.hid hit
  have HN := Lib.hid hnew
  clear hit hnew
  obtain ⟨W2, hW2⟩ : ∃ W2, (W.alloc (.cells #[.int .i64 mn, .int .i64 av, .int .i64 mx] 23)).alloc (.cells tt 35) = W2 := ⟨_, rfl⟩
  have hB : Below W.heap.size W W2 := by rw [← hW2]; exact ((Below.refl _ _).alloc (Nat.le_refl _) _).alloc (by simp) _
  have hg1 : W2.heap[W.heap.size]? = some (.cells #[.int .i64 mn, .int .i64 av, .int .i64 mx] 23 (0, 0)) := by rw [← hW2]; exact heap_alloc2_old _ _ _
  have d0 : W2.cell? ⟨W.heap.size, 0, none⟩ = some (.int .i64 mn) := by rw [cell_of_row _ _ _ _ _ _ hg1]; rfl
  have d1 : W2.cell? ⟨W.heap.size, 1, none⟩ = some (.int .i64 av) := by rw [cell_of_row _ _ _ _ _ _ hg1]; rfl
  have d2 : W2.cell? ⟨W.heap.size, 2, none⟩ = some (.int .i64 mx) := by rw [cell_of_row _ _ _ _ _ _ hg1]; rfl
  clear hg1
  go_enter Tryz.func4, Tryz.ntmps4
  go_wp2_with fail
  refine (HN.out _).mono ?_
  rintro e w1 ⟨rfl, hb1⟩
  go_wp2_with fail
  go_ret2
  exact ⟨rfl, hB.trans (hb1.mono hB.size)⟩

theorem split_len (mn av mx : Nat) (tb : List Nat) : ∀ (N : Nat) (p : List Nat), (∀ r, first mn av mx tb r ≠ 0 → 1 ≤ first mn av mx tb r ∧ first mn av mx tb r ≤ r.length) → (split mn av mx tb N p).1.length + (split mn av mx tb N p).2.length ≤ p.length
  | 0, p, _ => by simp [split]
  | N + 1, p, h => by
    unfold split
    by_cases h0 : first mn av mx tb p = 0
    · rw [if_pos h0]; simp
    · rw [if_neg h0]
      have h1 := h p h0
      have ih := split_len mn av mx tb N (p.drop (first mn av mx tb p)) h
      simp only [List.length_cons, List.length_drop] at ih ⊢
      omega

set_option maxRecDepth 20000 in
set_option maxHeartbeats 2000000 in
theorem refAll_ok (mn av mx : Nat) (tb : List Nat) (A : Option Addr) (c : Nat) (p : List Nat) (W : World) (ht : tb.length = 256) (hb : ∀ x ∈ tb, x < 4294967296) (h : cutOk mn av mx = true)
    (hr : RN .u8 W A p) (hp : ∀ x ∈ p, x < 256) (hn : p.length ≤ 10000000) :
    Calls Tryz.prog 4 #[.agg #[.int .i64 mn, .int .i64 av, .int .i64 mx], .agg (tabA tb), .slice A p.length c] W fun e w' =>
      ∃ v okc, e = .returned (.tuple #[v, .int .i64 0]) ∧ SRow w' okc W.heap.size 25 v (chunks mn av mx tb p) ∧ (∀ k, okc k → W.heap.size ≤ k) ∧ Below W.heap.size W w' := by
  have hav : 1 ≤ av ∧ av ≤ 256 ∧ av ∣ 4294967296 := by
    unfold cutOk at h
    simp only [Bool.and_eq_true] at h
    exact isPow_dvd h.2
  have hmn : 1 ≤ mn ∧ mn ≤ mx ∧ mx ≤ 512 := by
    unfold cutOk at h
    simp only [Bool.and_eq_true, decide_eq_true_eq] at h
    omega
  have hsplit := fun W hr => Split_c A c mn av mx tb p W ht hb hr hp hmn.1 hmn.2.1 hmn.2.2 hav.2.1 hn (p.length + 1) (Nat.lt_succ_self _)
  have hch : chunks mn av mx tb p = (split mn av mx tb (p.length + 1) p).1 ++ if 0 < (split mn av mx tb (p.length + 1) p).2.length then [(split mn av mx tb (p.length + 1) p).2] else [] := by
    unfold chunks
    rw [fold_nil mn av mx tb p hmn.1 hav.1 hav.2.2 (p.length + 1) (Nat.lt_succ_self _)]
  have hlen := split_len mn av mx tb (p.length + 1) p (fun r hr0 => by have := first_bd tb r hr0; omega)
  obtain ⟨s, hs⟩ : ∃ s, split mn av mx tb (p.length + 1) p = s := ⟨_, rfl⟩
  rw [hs] at hsplit hch hlen
  clear hs
  obtain ⟨css, xs⟩ := s
  replace hch : chunks mn av mx tb p = css ++ if 0 < xs.length then [xs] else [] := hch
  replace hlen : css.length + xs.length ≤ p.length := hlen
  have hl2 : (css.length + 1) * 24 ≤ 140737488355328 := by omega
  have HL2 := Lib.hid hl2
  have HCH := Lib.hid hch
  have hck : checkV mn av mx = 0 := by unfold checkV; rw [h]; rfl
  have hnew := fun W => refCheck_c mn av mx W
  rw [hck] at hnew
  have hit : (Tryz.prog.info? 35).map (·.size) = some (tabA tb).size := by rw [tabA_size, ht]; exact infoT
  clear hl2 hch hck
  obtain ⟨tt, htt⟩ : ∃ tt, tabA tb = tt := ⟨_, rfl⟩
  rw [htt] at hit hsplit ⊢
  clear htt
  have HI := Lib.hid hit
  have HN := Lib.hid hnew
  have HS := Lib.hid hsplit
  clear hit hnew hsplit
  obtain ⟨W2, hW2⟩ : ∃ W2, (W.alloc (.cells #[.int .i64 mn, .int .i64 av, .int .i64 mx] 23)).alloc (.cells tt 35) = W2 := ⟨_, rfl⟩
  have hB : Below W.heap.size W W2 := by rw [← hW2]; exact ((Below.refl _ _).alloc (Nat.le_refl _) _).alloc (by simp) _
  have hs2 : W2.heap.size = W.heap.size + 1 + 1 := by rw [← hW2]; simp
  have hg1 : W2.heap[W.heap.size]? = some (.cells #[.int .i64 mn, .int .i64 av, .int .i64 mx] 23 (0, 0)) := by rw [← hW2]; exact heap_alloc2_old _ _ _
  have hg2 : W2.heap[W.heap.size + 1]? = some (.cells tt 35 (0, 0)) := by rw [← hW2]; exact heap_alloc2_new _ _ _
  have d0 : W2.cell? ⟨W.heap.size, 0, none⟩ = some (.int .i64 mn) := by rw [cell_of_row _ _ _ _ _ _ hg1]; rfl
  have d1 : W2.cell? ⟨W.heap.size, 1, none⟩ = some (.int .i64 av) := by rw [cell_of_row _ _ _ _ _ _ hg1]; rfl
  have d2 : W2.cell? ⟨W.heap.size, 2, none⟩ = some (.int .i64 mx) := by rw [cell_of_row _ _ _ _ _ _ hg1]; rfl
  go_enter Tryz.func4, Tryz.ntmps4
  go_wp2_with fail
  refine (HN.out _).mono ?_
  rintro e w1 ⟨rfl, hb1⟩
  have e1 : w1.heap[W.heap.size]? = some (.cells #[.int .i64 mn, .int .i64 av, .int .i64 mx] 23 (0, 0)) := (hb1.block _ (by omega)).trans hg1
  have e2 : w1.heap[W.heap.size + 1]? = some (.cells tt 35 (0, 0)) := (hb1.block _ (by omega)).trans hg2
  have c0 : w1.cell? ⟨W.heap.size, 0, none⟩ = some (.int .i64 mn) := by rw [cell_of_row _ _ _ _ _ _ e1]; rfl
  have c1 : w1.cell? ⟨W.heap.size, 1, none⟩ = some (.int .i64 av) := by rw [cell_of_row _ _ _ _ _ _ e1]; rfl
  have c2 : w1.cell? ⟨W.heap.size, 2, none⟩ = some (.int .i64 mx) := by rw [cell_of_row _ _ _ _ _ _ e1]; rfl
  have hb01 : Below W.heap.size W w1 := hB.trans (hb1.mono hB.size)
  have E2 := Lib.hid e2
  have HB := Lib.hid hb01
  clear hg1 hg2 e1 e2 hb1 hb01 hs2 hW2 d0 d1 d2
  go_wp2_with (refine wpList_load_row rfl 35 (.tmp 4) rfl (W.heap.size + 1) rfl 35 tt (0, 0) _ E2.out Tryz.underlying35 rfl HI.out ?_)
  refine (HS.out _ (hr.below HB.out)).mono ?_
  rintro e w2 ⟨vo, A3, c3, okc, rfl, hso, hokc, hr3, hc3, hA3, hb2⟩
  have hwl := HB.out.size
  have hb3 : Below W.heap.size W w2 := HB.out.trans (hb2.mono hwl)
  have HSO := Lib.hid hso
  have HOK := Lib.hid hokc
  have HR3 := Lib.hid hr3
  have HA3 := Lib.hid hA3
  have HB3 := Lib.hid hb3
  have hs12 := hb2.size
  clear hso hokc hr3 hA3 hb3 hb2
  replace hc3 : xs.length ≤ c3 := hc3
  by_cases hnx : 0 < xs.length
  · have hd : decide ((0 : Int) < xs.length) = true := decide_eq_true (by omega)
    have hn2 : decide (0 < xs.length) = true := decide_eq_true hnx
    have HNN := Lib.hid hnx
    clear hnx
    go_wp2_with (at_builtin; refine append_Sn w1.heap.size rfl (.tmp 26) (.tmp 28) 30 25 rfl Tryz.underlying30 info_bytes vo okc css A3 c3 xs xs.length rfl rfl w2.heap.size rfl rfl HSO.out HR3.out hc3 (fun a ha => (HA3.out a ha).2) hs12 HL2.out ?_; intro v7 w7 hsr7 hg7 hat7)
    go_ret2
    refine ⟨v7, fun k => okc k ∨ ∃ a, A3 = some a ∧ k = a.block, rfl, ?_, ?_, ?_⟩
    · rw [HCH.out, if_pos HNN.out]
      exact hsr7.lower hwl
    · rintro k (hk | ⟨a, ha, rfl⟩)
      · have := HOK.out k hk; omega
      · have := (HA3.out a ha).1; omega
    · have hb3 := HB3.out
      refine ⟨hg7.os.trans hb3.os, hg7.tape.trans hb3.tape, hg7.output.trans hb3.output, Nat.le_trans hb3.size hg7.size, fun k hk => ?_⟩
      refine (hg7.block k (by have := hb3.size; omega) (fun hh => ?_)).trans (hb3.block k hk)
      have := (HSO.out.typed k hh.symm).1
      omega
  · have hd : decide ((0 : Int) < xs.length) = false := decide_eq_false (by omega)
    have hn2 : decide (0 < xs.length) = false := decide_eq_false hnx
    have HNN := Lib.hid hnx
    clear hnx
    go_wp2_with fail
    go_ret2
    refine ⟨_, okc, rfl, ?_, fun k hk => by have := HOK.out k hk; omega, HB3.out⟩
    rw [HCH.out, if_neg HNN.out, List.append_nil]
    exact HSO.out.lower hwl

/-- What comes of a text. -/
def allOut (mn av mx : Int) (tb p : List Nat) : List (List Nat) := if cutOk mn av mx = true then chunks mn.toNat av.toNat mx.toNat tb p else []
theorem cut_nat {mn av mx : Int} (h : cutOk mn av mx = true) : ∃ a b c : Nat, mn = a ∧ av = b ∧ mx = c := by
  have h' := h
  unfold cutOk at h'
  simp only [Bool.and_eq_true, decide_eq_true_eq] at h'
  have := isPow_range h'.2
  exact ⟨mn.toNat, av.toNat, mx.toNat, by omega, by omega, by omega⟩
theorem refAll_c (mn av mx : Int) (tb : List Nat) (A : Option Addr) (c : Nat) (p : List Nat) (W : World) (ht : tb.length = 256) (hb : ∀ x ∈ tb, x < 4294967296)
    (hr : RN .u8 W A p) (hp : ∀ x ∈ p, x < 256) (hl : p.length ≤ 10000000) :
    Calls Tryz.prog 4 #[.agg #[.int .i64 mn, .int .i64 av, .int .i64 mx], .agg (tabA tb), .slice A p.length c] W fun e w' =>
      ∃ v okc, e = .returned (.tuple #[v, .int .i64 (checkV mn av mx)]) ∧ SRow w' okc W.heap.size 25 v (allOut mn av mx tb p) ∧ Below W.heap.size W w' := by
  unfold checkV allOut
  by_cases h : cutOk mn av mx = true
  · obtain ⟨a, b, d, rfl, rfl, rfl⟩ := cut_nat h
    rw [if_pos h, if_pos h]
    refine (refAll_ok a b d tb A c p W ht hb h hr hp hl).mono ?_
    rintro e w' ⟨v, okc, h1, h2, _, h4⟩
    exact ⟨v, okc, h1, h2, h4⟩
  · rw [if_neg h, if_neg h]
    refine (refAll_bad mn av mx tb A c p.length W ht (by simpa using h)).mono ?_
    rintro e w' ⟨h1, h2⟩
    exact ⟨_, _, h1, SRow.nil _ _ _, h2⟩

end Go.Proofs.YtbcamfbbooggfaaGreat.F
end

section
/- The chunks, one behind the other, are the stream. -/
set_option linter.unusedVariables false
set_option linter.unusedSimpArgs false
namespace Go.Proofs.YtbcamfbbooggfaaGreat.F
open Go.RowKit Go.Proofs.YtbcamfbbooggfaaGreatW.PrintWords

theorem gstep_inv {mn av mx : Nat} {tb : List Nat} (h1 : 1 ≤ mn) (h2 : mn ≤ mx) (s : List (List Nat) × List Nat) (b : Nat) (hs : (∀ c ∈ s.1, mn ≤ c.length ∧ c.length ≤ mx) ∧ s.2.length < mx) :
    ((∀ c ∈ (gstep mn av mx tb s b).1, mn ≤ c.length ∧ c.length ≤ mx) ∧ (gstep mn av mx tb s b).2.length < mx) ∧ (gstep mn av mx tb s b).1.flatten ++ (gstep mn av mx tb s b).2 = s.1.flatten ++ s.2 ++ [b] := by
  unfold gstep
  by_cases he : endsAt mn av mx tb (s.2 ++ [b]) = true
  · rw [if_pos he]
    refine ⟨⟨fun c hc => ?_, by simp; omega⟩, by simp⟩
    rcases List.mem_append.1 hc with hc | hc
    · exact hs.1 c hc
    · rw [List.mem_singleton.1 hc]
      unfold endsAt at he
      simp only [Bool.and_eq_true, decide_eq_true_eq] at he
      have := hs.2
      refine ⟨he.1, by simp; omega⟩
  · rw [if_neg he]
    refine ⟨⟨hs.1, ?_⟩, by simp⟩
    have h3 := hs.2
    rw [List.length_append, List.length_singleton]
    by_cases h4 : s.2.length + 1 = mx
    · exfalso
      apply he
      unfold endsAt
      simp [h4]
      omega
    · omega
theorem gfold_inv {mn av mx : Nat} {tb : List Nat} (h1 : 1 ≤ mn) (h2 : mn ≤ mx) (p : List Nat) : ∀ (s : List (List Nat) × List Nat), ((∀ c ∈ s.1, mn ≤ c.length ∧ c.length ≤ mx) ∧ s.2.length < mx) →
    ((∀ c ∈ (p.foldl (gstep mn av mx tb) s).1, mn ≤ c.length ∧ c.length ≤ mx) ∧ (p.foldl (gstep mn av mx tb) s).2.length < mx) ∧ (p.foldl (gstep mn av mx tb) s).1.flatten ++ (p.foldl (gstep mn av mx tb) s).2 = s.1.flatten ++ s.2 ++ p := by
  induction p with
  | nil => intro s hs; exact ⟨hs, by simp⟩
  | cons b p ih =>
    intro s hs
    have h := gstep_inv (av := av) (tb := tb) h1 h2 s b hs
    have h' := ih _ h.1
    refine ⟨h'.1, ?_⟩
    rw [List.foldl_cons, h'.2, h.2]
    simp
theorem chunks_are {mn av mx : Nat} {tb : List Nat} (h1 : 1 ≤ mn) (h2 : mn ≤ mx) (p : List Nat) : (chunks mn av mx tb p).flatten = p ∧
    ∀ k (h : k < (chunks mn av mx tb p).length), 1 ≤ (chunks mn av mx tb p)[k].length ∧ (chunks mn av mx tb p)[k].length ≤ mx ∧ (k + 1 < (chunks mn av mx tb p).length → mn ≤ (chunks mn av mx tb p)[k].length) := by
  have h := gfold_inv (av := av) (tb := tb) h1 h2 p ([], []) ⟨by simp, by simp; omega⟩
  unfold chunks
  obtain ⟨s, hs⟩ : ∃ s, p.foldl (gstep mn av mx tb) ([], []) = s := ⟨_, rfl⟩
  rw [hs] at h ⊢
  obtain ⟨⟨ha, hb⟩, hc⟩ := h
  by_cases hx : 0 < s.2.length
  · rw [if_pos hx]
    refine ⟨by simpa using hc, fun k hk => ?_⟩
    rw [List.length_append, List.length_singleton] at hk
    by_cases hk2 : k < s.1.length
    · rw [List.getElem_append_left hk2]
      have := ha _ (List.getElem_mem hk2)
      exact ⟨by omega, this.2, fun _ => this.1⟩
    · have hk3 : k = s.1.length := by omega
      subst hk3
      rw [List.getElem_append_right (Nat.le_refl _)]
      simp only [Nat.sub_self, List.getElem_cons_zero, List.length_append, List.length_singleton]
      exact ⟨by omega, by omega, fun h => by omega⟩
  · rw [if_neg hx]
    have h0 : s.2 = [] := List.eq_nil_of_length_eq_zero (by omega)
    rw [h0] at hc
    refine ⟨by simpa using hc, fun k hk => ?_⟩
    simp only [List.append_nil] at hk ⊢
    have := ha _ (List.getElem_mem hk)
    exact ⟨by omega, this.2, fun _ => this.1⟩
end Go.Proofs.YtbcamfbbooggfaaGreat.F
end
