/- Shards of a group, walked. -/
import Derived.Test.YtdmfecaejdiihaaPt
set_option linter.unusedVariables false
set_option linter.unusedSimpArgs false
namespace Go.Proofs.Ytdmfecaejdiihaa.F
open Go.RowKit Go.Proofs.YtdmfecaejdiihaaW.PrintWords

def grpAt (css : List (List Nat)) (pts : List Nat) (L i : Nat) : List Nat := if i ∈ pts then css.getD (pts.idxOf i) [] else atV css pts i L
def grpP (css : List (List Nat)) (pts : List Nat) (L n : Nat) : List (List Nat) := (List.range n).map (grpAt css pts L)
theorem grpP_succ (css : List (List Nat)) (pts : List Nat) (L i : Nat) : grpP css pts L (i + 1) = grpP css pts L i ++ [grpAt css pts L i] := by
  unfold grpP
  rw [List.range_succ, List.map_append]
  rfl
theorem grpP_len (css : List (List Nat)) (pts : List Nat) (L i : Nat) : (grpP css pts L i).length = i := by simp [grpP]
/-- What a row of the call's own is, where it is handed on. -/
theorem OwnN.fresh {k : IntKind} {e : TypeId} {W : World} {base : Nat} {A : Option Addr} {n c : Nat} {xs : List Nat} (h : OwnN k e W base (.slice A n c) xs) {N : Nat} (hN : N ≤ base) {v : Value} (hv : ∀ b, v.ownBlock = some b → b < N) :
    ∀ a, A = some a → a.block < W.heap.size ∧ v.ownBlock ≠ some a.block := fun a ha => by
  subst ha
  have ht := h.typed
  have hb : (Value.slice (some a) n c).ownBlock = some a.block := rfl
  have := ht _ hb
  exact ⟨this.2.1, fun e => by have := hv _ e; omega⟩

set_option maxRecDepth 20000 in
set_option maxHeartbeats 8000000 in
theorem group_c (A : Option Addr) (c gp d base0 : Nat) (css : List (List Nat)) (pts : List Nat) (L n : Nat) (w : World) (hr : RR w A css) (hn : 0 < css.length) (hpl : pts.length = css.length) (hcl : css.length ≤ 256) (hlen : ∀ cs ∈ css, cs.length = L) (hL : L ≤ 4096)
    (hb : ∀ cs ∈ css, ∀ y ∈ cs, y < 256) (hp : OwnN .u8 5 w base0 (.slice (some ⟨gp, 0, none⟩) pts.length d) pts) (hpb : ∀ y ∈ pts, y < 256) (hnd : pts.Nodup) (hn2 : n ≤ 256) :
    Calls Try.prog 19 #[.slice A css.length c, .slice (some ⟨gp, 0, none⟩) pts.length d, .int .i64 n] w fun e w' => ∃ v okc, e = .returned v ∧ SRow w' okc w.heap.size 29 v (grpP css pts L n) ∧ Below w.heap.size w w' := by
  have hmx := hr.max
  have hrp : RN .u8 w (some ⟨gp, 0, none⟩) pts := by
    obtain ⟨A6, c6, e6, _, h6⟩ := hp.reads
    injection e6 with e7 e8 e9
    rw [e7]
    exact h6
  have hat := fun W (x : Nat) (hr : RR W A css) (hp : RN .u8 W (some ⟨gp, 0, none⟩) pts) (hx : x < 256) => at_c A (some ⟨gp, 0, none⟩) c d css pts x L W hr hn hcl hlen hL hb hp (by omega) hpb hnd hx
  have hix := fun W (x : Nat) (ho : OwnN .u8 5 W base0 (.slice (some ⟨gp, 0, none⟩) pts.length d) pts) (hx : x < 256) => IndexByte_c gp d pts base0 x W ho hpb hx
  have HAT := Lib.hid hat
  have HIX := Lib.hid hix
  have HRR := Lib.hid hr
  have HP := Lib.hid hp
  have HRP := Lib.hid hrp
  have HPL := Lib.hid hpl
  have HLEN := Lib.hid hlen
  clear hat hix hr hp hrp hpl hpb hnd hb hlen
  go_enter Try.func19, Try.ntmps19
  go_wp2_with fail
  go_loopw [7, 11] (fun vo vi W => ∃ (i : Nat) (okc : Nat → Prop), i ≤ n ∧ vi = .int .i64 i ∧ SRow W okc w.heap.size 29 vo (grpP css pts L i) ∧ Below w.heap.size w W) (fun _ vi _ => n - (intOf vi).toNat)
  case atStart => exact ⟨0, fun _ => False, by omega, rfl, SRow.nil _ _ _, Below.refl _ _⟩
  case round =>
    obtain ⟨i, okc, hi, rfl, ho, hB⟩ := hrel
    have HO := Lib.hid ho
    have HB := Lib.hid hB
    have hsz := hB.size
    clear ho hB
    by_cases hlt : i < n
    · have hd : decide ((i : Int) < n) = true := decide_eq_true (by omega)
      have hgs := grpP_succ css pts L i
      have hgl := grpP_len css pts L i
      have hl24 : ((grpP css pts L i).length + 1) * 24 ≤ 140737488355328 := by rw [hgl]; omega
      have HL24 := Lib.hid hl24
      obtain ⟨gr, hgr⟩ : ∃ gr, grpAt css pts L i = gr := ⟨_, rfl⟩
      rw [hgr] at hgs
      have HGS := Lib.hid hgs
      have hi1 : (i : Int) < 256 := by omega
      have hi0 : (0 : Int) ≤ (i : Int) := by omega
      have hg2 : grpAt css pts L i = gr := hgr
      unfold grpAt at hg2
      have HG2 := Lib.hid hg2
      have hlo : ∀ b, u7.ownBlock = some b → b < wr.heap.size := fun b hb => (HO.out.typed b hb).2.1
      have HLO := Lib.hid hlo
      clear hgs hgl hl24 hgr hg2 hlo
      go_wp2_with fail
      refine (HIX.out _ i (HP.out.kept (HB.out.mono (Nat.le_refl _))) (by omega)).mono ?_
      rintro e w1 ⟨rfl, rfl⟩
      by_cases hm : i ∈ pts
      · have hpi : place pts i = (pts.idxOf i : Nat) := by unfold place; rw [if_pos hm]
        rw [hpi]
        have hidx : pts.idxOf i < css.length := by rw [← HPL.out]; exact List.idxOf_lt_length_iff.2 hm
        have hgv := HG2.out
        rw [if_pos hm] at hgv
        obtain ⟨j, hj⟩ : ∃ j, pts.idxOf i = j := ⟨_, rfl⟩
        rw [hj] at hidx hgv ⊢
        clear hpi hj hm
        obtain ⟨ad, A5, c5, e, q5, l5, r5⟩ := (HRR.out.below HB.out).at j hidx
        subst e
        have hgv2 : css[j] = gr := by rw [← hgv]; simp [List.getD_eq_getElem?_getD, hidx]
        rw [hgv2] at q5 l5 r5
        have hgl : gr.length ≤ 4096 := by rw [← hgv2, HLEN.out _ (List.getElem_mem hidx)]; exact hL
        have hE := empty_lit w1
        have hbA : Below w1.heap.size w1 (w1.alloc (.cells #[] 5)) := (Below.refl _ _).alloc (Nat.le_refl _) _
        have hs2 : w1.heap.size ≤ (w1.alloc (.cells #[] 5)).heap.size := by simp
        have q6 : (w1.alloc (.cells #[] 5)).cell? (ad.add j) = some (.slice A5 gr.length c5) := (hbA.cell (World.block_lt_of_cell? _ _ q5)).trans q5
        have hl1 : (([] : List Nat).length + gr.length) * 1 ≤ 140737488355328 := by simp; omega
        have HE := Lib.hid hE
        have HBA := Lib.hid hbA
        have HR5 := Lib.hid (r5.below hbA)
        have HL1 := Lib.hid hl1
        have d0 : decide ((0 : Int) ≤ (j : Int)) = true := decide_eq_true (by omega)
        have j0 : (0 : Int) ≤ (j : Int) := by omega
        have j1 : (j : Int) < (css.length : Int) := by omega
        clear hgv hgv2 hE hbA r5 hl1
        go_wp2_with (first
          | (at_builtin; refine append_NNw w1.heap.size rfl (.tmp 21) (.tmp 25) 29 5 .u8 1 rfl Try.underlying29 info_u8 (by decide) (.slice (some ⟨w1.heap.size, 0, none⟩) 0 0) [] gr A5 c5 rfl rfl HE.out HR5.out hs2 HL1.out ?_; intro v2 w2 ho2 hg2 hat2; rw [List.nil_append] at ho2; have hb2 := HBA.out.trans (below_grown HE.out hs2 hg2); obtain ⟨A2, c2, rfl, hc2, hn2', ha2, hr2⟩ := ho2.form; have hfr := ho2.fresh (N := w1.heap.size) (Nat.le_refl _) HLO.out; have HB2 := Lib.hid hb2; have HR2 := Lib.hid hr2; have HFR := Lib.hid hfr; have HO2 := Lib.hid (HO.out.below hb2); have hs3 : w.heap.size ≤ w2.heap.size := Nat.le_trans hsz hb2.size; clear ho2 hg2 hat2 hb2 hr2 hfr)
          | (at_builtin; refine append_S w.heap.size rfl (.tmp 20) (.tmp 27) 22 29 rfl Try.underlying22 info_bytes u7 okc (grpP css pts L i) A2 c2 gr rfl w2.heap.size rfl rfl HO2.out HR2.out hc2 HFR.out hs3 HL24.out ?_; intro v3 w3 ho3 hg3 hat3))
        have hb3 : Below w.heap.size w2 w3 := ⟨hg3.os, hg3.tape, hg3.output, hg3.size, fun k hk => hg3.block k (by omega) (fun e => by have := (HO2.out.typed k e.symm).1; omega)⟩
        refine ⟨⟨i + 1, _, by omega, by go_num, by rw [HGS.out]; exact ho3, (HB.out.trans (HB2.out.mono hsz)).trans hb3⟩, by simp [intOf]; omega⟩
      · have hpi : place pts i = -1 := by unfold place; rw [if_neg hm]
        rw [hpi]
        have hgv := HG2.out
        rw [if_neg hm] at hgv
        have HGV := Lib.hid hgv
        have hatl : gr.length = L := by rw [← hgv]; simp [atV]
        clear hpi hgv hm
        go_wp2_with fail
        refine (HAT.out _ i (HRR.out.below HB.out) (HRP.out.below HB.out) (by omega)).mono ?_
        rw [HGV.out]
        rintro e w2 ⟨v2, rfl, ho2, hb2⟩
        obtain ⟨A2, c2, rfl, hc2, hn2', ha2, hr2⟩ := ho2.form
        have hfr := ho2.fresh (N := w1.heap.size) (Nat.le_refl _) HLO.out
        have HB2 := Lib.hid hb2
        have HR2 := Lib.hid hr2
        have HFR := Lib.hid hfr
        have HO2 := Lib.hid (HO.out.below hb2)
        have hs3 : w.heap.size ≤ w2.heap.size := Nat.le_trans hsz hb2.size
        have HATL := Lib.hid hatl
        clear ho2 hb2 hr2 hfr hatl
        go_wp2_with (at_builtin; refine append_S w.heap.size rfl (.tmp 29) (.tmp 35) 22 29 rfl Try.underlying22 info_bytes u7 okc (grpP css pts L i) A2 c2 gr rfl w2.heap.size rfl rfl HO2.out HR2.out hc2 HFR.out hs3 HL24.out ?_; intro v3 w3 ho3 hg3 hat3)
        have hb3 : Below w.heap.size w2 w3 := ⟨hg3.os, hg3.tape, hg3.output, hg3.size, fun k hk => hg3.block k (by omega) (fun e => by have := (HO2.out.typed k e.symm).1; omega)⟩
        refine ⟨⟨i + 1, _, by omega, by go_num, by rw [HGS.out]; exact ho3, (HB.out.trans (HB2.out.mono hsz)).trans hb3⟩, by simp [intOf]; omega⟩
    · have hd : decide ((i : Int) < n) = false := decide_eq_false (by omega)
      obtain rfl : i = n := by omega
      go_wp2_with fail
      go_ret
      exact ⟨_, okc, rfl, HO.out, HB.out⟩
end Go.Proofs.Ytdmfecaejdiihaa.F
