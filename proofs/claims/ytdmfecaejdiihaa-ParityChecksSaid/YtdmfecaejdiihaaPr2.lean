/- The document's group, walked. -/
import Derived.Test.YtdmfecaejdiihaaPq
set_option linter.unusedVariables false
set_option linter.unusedSimpArgs false
namespace Go.Proofs.Ytdmfecaejdiihaa.F
open Go.RowKit Go.Proofs.YtdmfecaejdiihaaW.PrintWords

def hidx (sv : List SD) (i : Nat) : List Nat := (List.range i).filter fun j => (sv.getD j (none, 0, 0)).1.isSome
theorem hidx_succ (sv : List SD) (i : Nat) : hidx sv (i + 1) = hidx sv i ++ (if (sv.getD i (none, 0, 0)).1.isSome then [i] else []) := by
  unfold hidx
  rw [List.range_succ, List.filter_append]
  congr 1
  by_cases h : (sv.getD i (none, 0, 0)).1.isSome = true
  · rw [if_pos h, List.filter_cons, if_pos h]; rfl
  · rw [if_neg h, List.filter_cons, if_neg h]; rfl
theorem hidx_lt (sv : List SD) (i : Nat) : ∀ j ∈ hidx sv i, j < i := fun j hj => List.mem_range.1 (List.mem_filter.1 hj).1
theorem hidx_nodup (sv : List SD) (i : Nat) : (hidx sv i).Nodup := List.Pairwise.filter _ List.nodup_range
theorem hidx_more (sv : List SD) (i : Nat) : ∀ n, i ≤ n → ∃ r, hidx sv n = hidx sv i ++ r
  | 0, h => ⟨[], by obtain rfl : i = 0 := by omega
                    simp⟩
  | n + 1, h => by
    by_cases hi : i = n + 1
    · exact ⟨[], by rw [hi]; simp⟩
    · obtain ⟨r, hr⟩ := hidx_more sv i n (by omega)
      exact ⟨r ++ (if (sv.getD n (none, 0, 0)).1.isSome then [n] else []), by rw [hidx_succ, hr, List.append_assoc]⟩
theorem hidx_take (sv : List SD) (i n k : Nat) (h : i ≤ n) (hk : (hidx sv i).length = k) : (hidx sv n).take k = hidx sv i := by
  obtain ⟨r, hr⟩ := hidx_more sv i n h
  rw [hr, List.take_append_of_le_length (by omega), List.take_of_length_le (by omega)]
theorem gdot_comm : ∀ (a b : List Nat), (∀ x ∈ a, x < 256) → (∀ x ∈ b, x < 256) → gdot a b = gdot b a
  | [], [], _, _ => rfl
  | [], _ :: _, _, _ => rfl
  | _ :: _, [], _, _ => rfl
  | x :: a, y :: b, ha, hb => by
    show gm x y ^^^ gdot a b = gm y x ^^^ gdot b a
    rw [gm_comm (ha x (by simp)) (hb y (by simp)), gdot_comm a b (fun z hz => ha z (by simp [hz])) (fun z hz => hb z (by simp [hz]))]
def refV (css : List (List Nat)) (pts : List Nat) (x L : Nat) : List Nat := (List.range L).map fun i => gdot (weights pts x) (colAt css i)
theorem refV_eq (css : List (List Nat)) (pts : List Nat) (x L : Nat) (hb : ∀ cs ∈ css, ∀ y ∈ cs, y < 256) : refV css pts x L = atV css pts x L := by
  unfold refV atV
  apply List.map_congr_left
  intro i _
  exact gdot_comm _ _ weights_lt (col_lt hb i)
def grpR (css : List (List Nat)) (pts : List Nat) (L n : Nat) : List (List Nat) := (List.range n).map fun i => atV css pts i L
theorem grpR_succ (css : List (List Nat)) (pts : List Nat) (L i : Nat) : grpR css pts L (i + 1) = grpR css pts L i ++ [atV css pts i L] := by
  unfold grpR
  rw [List.range_succ, List.map_append]
  rfl
theorem grpR_len (css : List (List Nat)) (pts : List Nat) (L i : Nat) : (grpR css pts L i).length = i := by simp [grpR]

theorem RR.ofRow {W : World} {base e : Nat} {Af : Option Addr} {cf : Nat} {css : List (List Nat)} {vals : List Value} (h : W.ownsRow base e 1 (.slice Af css.length cf) css.length vals)
    (hv : ∀ i (h : i < css.length), ∃ A c, vals[i]? = some (.slice A css[i].length c) ∧ css[i].length ≤ c ∧ RN .u8 W A css[i]) : RR W Af css := by
  rcases h.2 with ⟨e1, e2⟩ | ⟨g, cap, cur, e1, hb, hh, hc, hm, _⟩
  · have hl : css.length = 0 := by have := h.1; rw [e2] at this; simp at this; omega
    have : css = [] := List.eq_nil_of_length_eq_zero hl
    subst this
    exact ⟨by simp, fun h => by simp at h⟩
  · injection e1 with e3 e4 e5
    subst e3
    refine ⟨by unfold maxLen at hm; omega, fun hp => ⟨_, rfl, fun i hi => ?_⟩⟩
    obtain ⟨A, c, h1, h2, h3⟩ := hv i hi
    exact ⟨A, c, h.cells (g := g) rfl i _ h1, h2, h3⟩
set_option maxRecDepth 20000 in
set_option maxHeartbeats 20000000 in
theorem rGroup_c (A : Option Addr) (c : Nat) (sv : List SD) (css : List (List Nat)) (k n L : Nat) (w : World) (hI : SV w A sv) (hcs : ∀ i (h : i < sv.length), RN .u8 w sv[i].1 (css.getD i []) ∧ sv[i].2.1 = (css.getD i []).length ∧ (css.getD i []).length ≤ sv[i].2.2)
    (hk : 1 ≤ k) (hk2 : k ≤ 256) (hn : n ≤ 256) (hsn : sv.length ≤ 256) (hkl : k ≤ (hidx sv sv.length).length) (hlen : ∀ i (h : i < sv.length), sv[i].1.isSome = true → (css.getD i []).length = L) (hL : L ≤ 4096) (hb : ∀ i, ∀ y ∈ css.getD i [], y < 256) :
    Calls Try.prog 21 #[.slice A sv.length c, .int .i64 k, .int .i64 n] w fun e w' => ∃ v okc, e = .returned v ∧
      SRow w' okc w.heap.size 29 v (grpR (((hidx sv sv.length).take k).map fun j => css.getD j []) ((hidx sv sv.length).take k) L n) ∧ Below w.heap.size w w' := by
  have hmx : (sv.length : Int) ≤ 9223372036854775807 := by have := hI.1; omega
  have qN : ∀ (w : World) (a : Option Addr) (n c : Nat), Sem.run Try.prog (binOp BinOp.neq 29 (.slice a n c) (.slice none 0 0)) w = Result.ok (.bool !a.isNone) w := fun w a n c => Go.run_neq_slice_nil_any w 29 5 a n c 0 0 Try.underlying29
  have HI := Lib.hid hI
  have HCS := Lib.hid hcs
  have HLEN := Lib.hid hlen
  have HBB := Lib.hid hb
  have HKL := Lib.hid hkl
  clear hI hcs hlen hb hkl
  obtain ⟨W1, hW1⟩ : ∃ W1, (w.alloc (.cells #[] 5)).alloc (.cells #[] 29) = W1 := ⟨_, rfl⟩
  have hb1 : Below w.heap.size w W1 := by rw [← hW1]; exact ((Below.refl _ _).alloc (Nat.le_refl _) _).alloc (by simp) _
  have hs1 : W1.heap.size = w.heap.size + 2 := by rw [← hW1]; simp
  have hp1 : OwnN .u8 5 W1 w.heap.size (.slice (some ⟨w.heap.size, 0, none⟩) 0 0) [] := by rw [← hW1]; exact (empty_lit w).kept ((Below.refl _ _).alloc (Nat.le_refl _) _)
  have hf1 : W1.ownsRow w.heap.size 29 1 (.slice (some ⟨w.heap.size + 1, 0, none⟩) 0 0) 0 [] := by
    have h := World.ownsRow_lit (base := w.heap.size) (e := 29) (size := 1) (w.alloc (.cells #[] 5)) #[] 0 (by simp) (by simp [maxLen]) (by simp)
    rw [← hW1]
    simpa using h
  have HW1 := Lib.hid hW1
  have HB1 := Lib.hid hb1
  have HP1 := Lib.hid hp1
  have HF1 := Lib.hid hf1
  clear hW1 hb1 hp1 hf1
  go_enter Try.func21, Try.ntmps21
  go_wp2_with (rw [HW1.out])
  go_loopw [7, 8, 9] (fun vp vf vi W => ∃ i : Nat, i ≤ sv.length ∧ vi = .int .i64 i ∧ (hidx sv i).length ≤ k ∧ OwnN .u8 5 W w.heap.size vp (hidx sv i) ∧
      W.ownsRow w.heap.size 29 1 vf (hidx sv i).length ((hidx sv i).map fun j => sdv (sv.getD j (none, 0, 0))) ∧ Below w.heap.size w W ∧ w.heap.size + 2 ≤ W.heap.size) (fun _ _ vi _ => sv.length - (intOf vi).toNat)
  case atStart => exact ⟨0, by omega, rfl, by simp [hidx], HP1.out, by simpa [hidx] using HF1.out, HB1.out, by omega⟩
  case round =>
    obtain ⟨i, hi, rfl, hik, hp, hf, hB, hsz⟩ := hrel
    obtain ⟨Ap, cp, rfl, hcp, hnp, hap, hrp⟩ := hp.form
    have hff : ∃ Af cf, u8 = .slice Af (hidx sv i).length cf ∧ (hidx sv i).length ≤ cf := by
      rcases hf.2 with ⟨e1, e2⟩ | ⟨g, cap, cur, e1, _, _, e2, _⟩
      · exact ⟨none, 0, by rw [e1, e2], by omega⟩
      · exact ⟨_, cap, e1, e2⟩
    obtain ⟨Af, cf, rfl, hcf⟩ := hff
    have hmore := hidx_more sv i sv.length hi
    have htk := hidx_take sv i sv.length k hi
    have hsc := hidx_succ sv i
    have hilt := hidx_lt sv i
    have hind := hidx_nodup sv i
    have hml : (hidx sv sv.length).length ≤ sv.length := by
      have := List.length_filter_le (fun j => (sv.getD j (none, 0, 0)).1.isSome) (List.range sv.length)
      rw [List.length_range] at this
      exact this
    obtain ⟨P, hP⟩ : ∃ P, hidx sv i = P := ⟨_, rfl⟩
    rw [hP] at hik hp hf hcp hrp hcf hmore htk hsc hilt hind ⊢
    have HP := Lib.hid hp
    have HF := Lib.hid hf
    have HB := Lib.hid hB
    have HPP := Lib.hid hP
    have HSC := Lib.hid hsc
    have HTK := Lib.hid htk
    have HMORE := Lib.hid hmore
    have HILT := Lib.hid hilt
    have HIND := Lib.hid hind
    have HRP := Lib.hid hrp
    clear hp hf hB hP hsc htk hmore hilt hind hnp hap hrp
    by_cases hlt : i < sv.length
    · have hd : decide ((i : Int) < sv.length) = true := decide_eq_true (by omega)
      by_cases hpk : P.length < k
      · have hd2 : decide ((P.length : Int) < k) = true := decide_eq_true (by omega)
        have hd2n : decide (P.length < k) = true := decide_eq_true hpk
        obtain ⟨ad, e, hadl, hcc⟩ := HI.out.2 (by omega)
        subst e
        have hci0 := hcc i hlt
        have hgd : sv.getD i (none, 0, 0) = sv[i] := by simp [List.getD_eq_getElem?_getD, hlt]
        have hsc := HSC.out
        rw [hgd] at hsc
        obtain ⟨⟨xa, xn, xc⟩, hx⟩ : ∃ x, sv[i] = x := ⟨_, rfl⟩
        rw [hx] at hci0 hsc hgd
        dsimp only at hci0 hsc
        have hci : wr.cell? (ad.add i) = some (.slice xa xn xc) := (HB.out.cell (p := ad.add i) (by rw [add_blk]; exact hadl)).trans hci0
        have HGD := Lib.hid hgd
        have HCI0 := Lib.hid hci0
        have i0 : (0 : Int) ≤ (i : Int) := by omega
        have i1 : (i : Int) < (sv.length : Int) := by omega
        have i2 : (i : Int) < 256 := by omega
        clear hcc hx hgd hci0
        cases xa with
        | none =>
          rw [if_neg (by simp), List.append_nil] at hsc
          have HSC2 := Lib.hid hsc
          clear hsc
          go_wp2_with fail
          exact ⟨⟨i + 1, by omega, by go_num, by rw [HSC2.out]; exact hik, by rw [HSC2.out]; exact HP.out, by rw [HSC2.out]; exact HF.out, HB.out, hsz⟩, by simp [intOf]; omega⟩
        | some xad =>
          rw [if_pos (show (some xad : Option Addr).isSome = true from rfl)] at hsc
          have HSC2 := Lib.hid hsc
          have hl1 : (P.length + [i].length) * 1 ≤ 140737488355328 := by simp; omega
          have hl2 : ((P.map fun j => sdv (sv.getD j (none, 0, 0))).length + 1) * 24 ≤ 140737488355328 := by rw [List.length_map]; omega
          have hbs : w.heap.size ≤ wr.heap.size := by omega
          have hal := (Below.refl wr.heap.size wr).alloc (Nat.le_refl _) (.cells #[.int .u8 (i : Nat)] 5)
          have HPA := Lib.hid (HP.out.kept hal)
          have HLA := Lib.hid (lit_reads .u8 5 wr [i] (by simp))
          have hsa : w.heap.size ≤ (wr.alloc (.cells #[.int .u8 (i : Nat)] 5)).heap.size := by simp; omega
          have HF2 := Lib.hid (show wr.ownsRow w.heap.size 29 1 (.slice Af P.length cf) (P.map fun j => sdv (sv.getD j (none, 0, 0))).length (P.map fun j => sdv (sv.getD j (none, 0, 0))) by rw [List.length_map]; exact HF.out)
          have HL1 := Lib.hid hl1
          have HL2 := Lib.hid hl2
          obtain ⟨vals, hvals⟩ : ∃ vals, (P.map fun j => sdv (sv.getD j (none, 0, 0))) = vals := ⟨_, rfl⟩
          rw [hvals] at HF2 HL2
          have HVALS := Lib.hid hvals
          clear hsc hl1 hl2 hal hvals
          go_wp2_with (first
            | (at_builtin; refine append_NNw w.heap.size rfl (.tmp 36) (.tmp 39) 29 5 .u8 1 rfl Try.underlying29 info_u8 (by decide) (.slice Ap P.length cp) P [i] (some ⟨wr.heap.size, 0, none⟩) 1 rfl rfl HPA.out HLA.out hsa HL1.out ?_; intro v4 w4 ho4 hg4 hat4; have hs4 := hg4.size; simp only [World.size_alloc] at hs4; have h4w : Below w.heap.size wr w4 := ⟨hg4.os, hg4.tape, hg4.output, by omega, fun j hj => (hg4.block j (by simp; omega) (fun e => by have := (HP.out.typed j e.symm).1; omega)).trans (Below.heap_alloc _ _ _ (by omega))⟩; have hf4 := own_move (w1 := w4) HF2.out (fun j hj => by
                have hj2 := own_lt HF2.out j hj
                refine (hg4.block j (by simp; omega) (fun e => ?_)).trans (Below.heap_alloc _ _ _ hj2)
                obtain ⟨_, _, cs1, h1⟩ := HP.out.typed j e.symm
                obtain ⟨cs2, h2⟩ := own_typed HF2.out j hj
                rw [h1] at h2
                injection h2 with h2
                injection h2 with _ h2
                exact absurd h2 (by decide)); have hb4 := HB.out.trans h4w; have hci4 : w4.cell? (ad.add i) = some (.slice (some xad) xn xc) := (hb4.cell (p := ad.add i) (by rw [add_blk]; exact hadl)).trans HCI0.out; have HF4 := Lib.hid hf4; have HB4 := Lib.hid hb4; have HO4 := Lib.hid ho4; have hbs4 : w.heap.size ≤ w4.heap.size := hb4.size; clear hf4 hb4 ho4 hg4 hat4 h4w)
            | (at_builtin; refine print_append (w0 := w) w.heap.size rfl (.tmp 41) (.tmp 46) 22 29 (.slice none 0 0) 24 rfl Try.underlying22 info_bytes rfl (by decide) (.slice Af P.length cf) vals (.slice (some xad) xn xc) rfl rfl rfl HF4.out HB4.out hbs4 HL2.out ?_; intro v5 w5 hf5 hb5 hg5 hat5))
          have ho5 := HO4.out.move (W' := w5) (fun j hj => hg5.block j (HO4.out.typed j hj).2.1 (fun e => by
            obtain ⟨_, _, cs1, h1⟩ := HO4.out.typed j hj
            obtain ⟨cs2, h2⟩ := own_typed HF4.out j e.symm
            rw [h1] at h2
            injection h2 with h2
            injection h2 with _ h2
            exact absurd h2 (by decide)))
          refine ⟨⟨i + 1, by omega, by go_num, by rw [HSC2.out]; simp; omega, by rw [HSC2.out]; exact ho5, ?_, hb5, by have := hg5.size; omega⟩, by simp [intOf]; omega⟩
          rw [HSC2.out]
          have h := hf5
          rw [← HVALS.out] at h
          rw [List.map_append, List.map_cons, List.map_nil, HGD.out]
          have e1 : (P ++ [i]).length = ((P.map fun j => sdv (sv.getD j (none, 0, 0))) ++ [sdv (some xad, xn, xc)]).length := by simp
          rw [e1]
          exact h
      · have hd2 : decide ((P.length : Int) < k) = false := decide_eq_false (by omega)
        have hd2n : decide (P.length < k) = false := decide_eq_false hpk
        have hPk : P.length = k := by omega
        have htk := HTK.out hPk
        have HTK2 := Lib.hid htk
        obtain ⟨fc, hfc⟩ : ∃ fc, P.map (fun j => css.getD j []) = fc := ⟨_, rfl⟩
        have hfl : fc.length = k := by rw [← hfc, List.length_map, hPk]
        have hPh : ∀ j ∈ P, j < sv.length ∧ (sv.getD j (none, 0, 0)).1.isSome = true := fun j hj => by
          rw [← HPP.out] at hj
          have h1 := List.mem_filter.1 hj
          exact ⟨by have := List.mem_range.1 h1.1; omega, h1.2⟩
        have hfL : ∀ cs ∈ fc, cs.length = L := fun cs hcs => by
          rw [← hfc] at hcs
          obtain ⟨j, hj, rfl⟩ := List.mem_map.1 hcs
          obtain ⟨h1, h2⟩ := hPh j hj
          exact HLEN.out j h1 (by simpa [List.getD_eq_getElem?_getD, h1] using h2)
        have hfB : ∀ cs ∈ fc, ∀ y ∈ cs, y < 256 := fun cs hcs => by
          rw [← hfc] at hcs
          obtain ⟨j, hj, rfl⟩ := List.mem_map.1 hcs
          exact HBB.out j
        have hPb : ∀ y ∈ P, y < 256 := fun y hy => by have := (hPh y hy).1; omega
        have hRF : RR wr Af fc := by
          refine RR.ofRow (base := w.heap.size) (e := 29) (cf := cf) (vals := P.map fun j => sdv (sv.getD j (none, 0, 0))) (by rw [hfl, ← hPk]; exact HF.out) (fun q hq => ?_)
          have hqP : q < P.length := by omega
          obtain ⟨h1, h2⟩ := hPh _ (List.getElem_mem hqP)
          have hg : sv.getD P[q] (none, 0, 0) = sv[P[q]] := by simp [List.getD_eq_getElem?_getD, h1]
          obtain ⟨c1, c2, c3⟩ := HCS.out P[q] h1
          have e1 : fc[q] = css.getD P[q] [] := by simp [← hfc]
          rw [e1]
          refine ⟨sv[P[q]].1, sv[P[q]].2.2, ?_, c3, c1.below HB.out⟩
          rw [List.getElem?_map, List.getElem?_eq_getElem hqP, Option.map_some, hg, ← c2]
          rfl
        have hwt := fun (W : World) (x : Nat) (hr : RN .u8 W Ap P) (hx : x < 256) => rWeights_c Ap cp P x W hr hPb hx (by omega)
        have HWT := Lib.hid hwt
        have HRF := Lib.hid hRF
        have HFL := Lib.hid hfl
        have HFLL := Lib.hid hfL
        have HFB := Lib.hid hfB
        have HFC := Lib.hid hfc
        have hE := SRow.empty wr wr.heap.size 29 (Nat.le_refl _)
        have hbE : Below wr.heap.size wr (wr.alloc (.cells #[] 29)) := (Below.refl _ _).alloc (Nat.le_refl _) _
        have HE := Lib.hid hE
        have HBE := Lib.hid hbE
        have HPK := Lib.hid hPk
        have hP0 : 0 < P.length := by omega
        have hP0i : (0 : Int) < P.length := by omega
        clear htk hPh hRF hwt hfl hfL hfB hfc hE hbE hPb hcp hcf HP HF hPk
        obtain ⟨wp, rfl⟩ : ∃ wp : World, wp = wr := ⟨_, rfl⟩
        go_wp2_with fail
        go_loopw [10, 11] (fun vo vi W => ∃ (i : Nat) (okc : Nat → Prop), i ≤ n ∧ vi = .int .i64 i ∧ SRow W okc wp.heap.size 29 vo (grpR fc P L i) ∧ Below wp.heap.size wp W) (fun _ vi _ => n - (intOf vi).toNat)
        case atStart => exact ⟨0, fun _ => False, by omega, rfl, HE.out, HBE.out⟩
        case round =>
          obtain ⟨i, okc, hi, rfl, ho, hB2⟩ := hrel
          have HO := Lib.hid ho
          have HB2 := Lib.hid hB2
          have hsz2 := hB2.size
          clear ho hB2
          by_cases hlt : i < n
          · have hd9 : decide ((i : Int) < n) = true := decide_eq_true (by omega)
            have i2 : (i : Int) < 256 := by omega
            have i3 : (0 : Int) ≤ (i : Int) := by omega
            have hgs := grpR_succ fc P L i
            have hgl := grpR_len fc P L i
            have hl24 : ((grpR fc P L i).length + 1) * 24 ≤ 140737488355328 := by rw [hgl]; omega
            have HL24 := Lib.hid hl24
            have HGS := Lib.hid hgs
            have hrv := refV_eq fc P i L HFB.out
            have HRV := Lib.hid hrv
            have hlo : ∀ b, u10.ownBlock = some b → b < wr.heap.size := fun b hb => (HO.out.typed b hb).2.1
            have HLO := Lib.hid hlo
            obtain ⟨wo, rfl⟩ : ∃ wo : World, wo = wr := ⟨_, rfl⟩
            clear hgs hgl hl24 hrv hlo
            go_wp2_with fail
            refine (HWT.out _ i (HRP.out.below HB2.out) (by omega)).mono ?_
            rintro e w5 ⟨v5, rfl, ho5, hb5⟩
            obtain ⟨A5, c5, rfl, hc5, hn5, ha5, hr5⟩ := ho5.form
            have hwl := weights_len P i
            have hwb := weights_lt (l := P) (a := i)
            obtain ⟨ws, hws⟩ : ∃ ws, weights P i = ws := ⟨_, rfl⟩
            rw [hws] at hr5 hc5 hwl hwb ⊢
            have hrvd : ∀ q, (List.range q).map (fun b => gdot ws (colAt fc b)) = refV fc P i q := fun q => by unfold refV; rw [hws]
            have hE5 := empty_lit w5
            have hbE5 : Below w5.heap.size w5 (w5.alloc (.cells #[] 5)) := (Below.refl _ _).alloc (Nat.le_refl _) _
            obtain ⟨ad1, A1, c1, e1, q1, l1, r1⟩ := ((HRF.out.below HB2.out).below hb5).at 0 (by rw [HFL.out]; omega)
            subst e1
            rw [HFLL.out _ (List.getElem_mem _), show ad1.add 0 = ad1 by unfold Addr.add; simp] at q1
            have HB5 := Lib.hid hb5
            have HR5 := Lib.hid hr5
            have HWL := Lib.hid hwl
            have HWB := Lib.hid hwb
            have HE5 := Lib.hid hE5
            have HBE5 := Lib.hid hbE5
            have HRVD := Lib.hid hrvd
            have HQ1 := Lib.hid q1
            have hL2 : (L : Int) ≤ 4096 := by omega
            clear ho5 hb5 hr5 hwl hwb hws hE5 hbE5 hrvd q1 l1 r1 hn5 ha5
            go_wp2_with fail
            go_loopw [13, 14] (fun vs vb W => ∃ b : Nat, b ≤ L ∧ vb = .int .i64 b ∧ OwnN .u8 5 W w5.heap.size vs ((List.range b).map (fun b => gdot ws (colAt fc b))) ∧ Below w5.heap.size w5 W) (fun _ vb _ => L - (intOf vb).toNat)
            case atStart => exact ⟨0, by omega, rfl, HE5.out, HBE5.out⟩
            case round =>
              obtain ⟨b, hb, rfl, hs, hB6⟩ := hrel
              have HS := Lib.hid hs
              have HB6 := Lib.hid hB6
              have hsz6 := hB6.size
              have q1 : wr.cell? ad1 = some (.slice A1 L c1) := (HB6.out.cell (World.block_lt_of_cell? _ _ HQ1.out)).trans HQ1.out
              clear hs hB6
              by_cases hbl : b < L
              · have hdb : decide ((b : Int) < L) = true := decide_eq_true (by omega)
                have hcll : (colAt fc b).length = k := by rw [← HFL.out]; simp [colAt]
                have hcb := col_lt HFB.out b
                have hsn : (List.range (b + 1)).map (fun b => gdot ws (colAt fc b)) = (List.range b).map (fun b => gdot ws (colAt fc b)) ++ [gdot ws (colAt fc b)] := by rw [List.range_succ, List.map_append]; rfl
                have hcat : ∀ q (hq : q < fc.length) (hq2 : b < fc[q].length), (colAt fc b)[q]? = some fc[q][b] := fun q hq hq2 => by simp [colAt, List.getD_eq_getElem?_getD, hq, hq2]
                obtain ⟨cl, hcl⟩ : ∃ cl, colAt fc b = cl := ⟨_, rfl⟩
                simp only [hcl] at hcll hcb hsn hcat
                obtain ⟨T, hT⟩ : ∃ T, gdot ws cl = T := ⟨_, rfl⟩
                rw [hT] at hsn
                have HSN := Lib.hid hsn
                have HTT := Lib.hid hT
                have HCAT := Lib.hid hcat
                have HCLL := Lib.hid hcll
                have HCB := Lib.hid hcb
                have b0 : (0 : Int) ≤ (b : Int) := by omega
                have b1 : (b : Int) < (L : Int) := by omega
                clear hcll hcb hsn hcat hcl hT
                obtain ⟨wi, rfl⟩ : ∃ wi : World, wi = wr := ⟨_, rfl⟩
                go_wp2_with fail
                go_loopw [15, 16] (fun vx vj W => ∃ j x : Nat, j ≤ k ∧ vj = .int .i64 j ∧ vx = .int .u8 x ∧ x < 256 ∧ x ^^^ gdot (ws.drop j) (cl.drop j) = T ∧ ∃ nn, W = wi.drewN nn) (fun _ vj _ => k - (intOf vj).toNat)
                case atStart => exact ⟨0, 0, by omega, rfl, rfl, by omega, by simpa using HTT.out, 0, rfl⟩
                case round =>
                  obtain ⟨j, x, hj, rfl, rfl, hx, hxT, nn, hnn⟩ := hrel
                  subst hnn
                  by_cases hjk : j < k
                  · have hwlen : ws.length = k := by rw [HWL.out, HPK.out]
                    have hdj : decide ((j : Int) < ws.length) = true := decide_eq_true (by rw [hwlen]; omega)
                    have hjw : j < ws.length := by rw [hwlen]; exact hjk
                    obtain ⟨adw, ew, hcw⟩ := (HR5.out.below HB6.out).at j hjw
                    subst ew
                    have hjf : j < fc.length := by rw [HFL.out]; exact hjk
                    obtain ⟨adf, Aj, cj, ej, qj, lj, rj⟩ := (((HRF.out.below HB2.out).below HB5.out).below HB6.out).at j hjf
                    injection ej with ej
                    subst ej
                    have hlj := HFLL.out _ (List.getElem_mem hjf)
                    rw [hlj] at qj lj
                    obtain ⟨adj, eaj, hcj⟩ := rj.at b (by omega)
                    subst eaj
                    have hcv := (List.getElem?_eq_some_iff.1 (HCAT.out j hjf (by omega))).2
                    have hgd := gdot_drop (a := ws) (b := cl) (i := j) hjw (by rw [HCLL.out]; exact hjk)
                    rw [hcv] at hgd
                    have hy : fc[j][b]'(by omega) < 256 := HFB.out _ (List.getElem_mem hjf) _ (List.getElem_mem _)
                    have hwj : ws[j] < 256 := HWB.out _ (List.getElem_mem hjw)
                    obtain ⟨y, hye⟩ : ∃ y, fc[j][b]'(by omega) = y := ⟨_, rfl⟩
                    obtain ⟨z, hze⟩ : ∃ z, ws[j] = z := ⟨_, rfl⟩
                    rw [hye] at hcj hgd hy
                    rw [hze] at hcw hgd hwj
                    rw [hgd, ← Nat.xor_assoc] at hxT
                    have hmm := fun w => refMul_c z y hwj hy w
                    have lm : gm z y < 256 := gm_lt hwj _
                    have hxx := u8_xor_nat x (gm z y) hx lm
                    have lx : x ^^^ gm z y < 256 := Nat.xor_lt_two_pow (n := 8) hx lm
                    have HMM := Lib.hid hmm
                    have HXT := Lib.hid hxT
                    have j0 : (0 : Int) ≤ (j : Int) := by omega
                    have j1 : (j : Int) < (ws.length : Int) := by omega
                    have j2 : (j : Int) < (k : Int) := by omega
                    have j3 : (j : Int) < (P.length : Int) := by have := HPK.out; omega
                    clear hlj hcv hgd hye hze hxT hmm hwlen rj
                    go_wp2_with fail
                    go_quiet ((first | exact quiet_add (HMM.out _) | exact quiet_same (HMM.out _)))
                    go_wp2_with fail
                    exact ⟨⟨j + 1, _, by omega, by go_num, rfl, lx, HXT.out, _, rfl⟩, by simp [intOf]; omega⟩
                  · have hwlen : ws.length = k := by rw [HWL.out, HPK.out]
                    have hdj : decide ((j : Int) < ws.length) = false := decide_eq_false (by rw [hwlen]; omega)
                    have hdjn : decide (j < ws.length) = false := decide_eq_false (by rw [hwlen]; omega)
                    have hdji : ¬ (j : Int) < ws.length := by rw [hwlen]; omega
                    have hdjm : ¬ j < ws.length := by rw [hwlen]; omega
                    obtain rfl : j = k := by omega
                    rw [gdot_end ws cl (.inl (by omega)), Nat.xor_zero] at hxT
                    have hdr : Below wi.heap.size wi (wi.drewN nn) := pw_below_drewN (Below.refl _ _) nn
                    have hs2 := HS.out.move (W' := wi.drewN nn) (fun _ _ => rfl)
                    have hb62 : Below w5.heap.size w5 (wi.drewN nn) := HB6.out.trans (hdr.mono hsz6)
                    have hl2 : (((List.range b).map (fun b => gdot ws (colAt fc b))).length + 1) * 1 ≤ 140737488355328 := by simp; omega
                    have hbs6 := hb62.size
                    have HS2 := Lib.hid hs2
                    have HB62 := Lib.hid hb62
                    have HL2 := Lib.hid hl2
                    have HXT := Lib.hid hxT
                    clear hdr hs2 hb62 hl2 hxT hwlen
                    go_wp2_with (at_builtin; refine append_N (w0 := w5) w5.heap.size rfl (.tmp 87) (.tmp 89) 29 5 .u8 1 rfl Try.underlying29 info_u8 (by decide) u13 ((List.range b).map (fun b => gdot ws (colAt fc b))) x rfl (wi.drewN nn).heap.size rfl rfl HS2.out HB62.out hbs6 HL2.out ?_; intro v7 w7 ho7 hb7)
                    exact ⟨⟨b + 1, by omega, by go_num, by rw [HSN.out, ← HXT.out]; exact ho7, hb7⟩, by simp [intOf]; omega⟩
              · have hdb : decide ((b : Int) < L) = false := decide_eq_false (by omega)
                obtain rfl : b = L := by omega
                have hs2 := HS.out
                rw [HRVD.out, HRV.out] at hs2
                have hal2 : (atV fc P i b).length = b := by simp [atV]
                obtain ⟨A8, c8, rfl, hc8, hn8, ha8, hr8⟩ := hs2.form
                have hfr := hs2.fresh (N := wo.heap.size) (by have := HB5.out.size; omega) HLO.out
                have hbw8 : Below wo.heap.size wo wr := HB5.out.trans (HB6.out.mono HB5.out.size)
                have HO2 := Lib.hid (HO.out.below hbw8)
                have HR8 := Lib.hid hr8
                have HFR := Lib.hid hfr
                have HBW8 := Lib.hid hbw8
                have hs3 : wp.heap.size ≤ wr.heap.size := Nat.le_trans hsz2 hbw8.size
                obtain ⟨rw8, hrw8⟩ : ∃ r, atV fc P i b = r := ⟨_, rfl⟩
                rw [hrw8] at HR8 hc8 hal2 ⊢
                have HRW8 := Lib.hid hrw8
                clear hs2 hr8 hfr hbw8 hn8 ha8 hrw8 hal2
                go_wp2_with (at_builtin; refine append_S wp.heap.size rfl (.tmp 91) (.tmp 93) 22 29 rfl Try.underlying22 info_bytes u10 okc (grpR fc P b i) A8 c8 rw8 rfl wr.heap.size rfl rfl HO2.out HR8.out hc8 HFR.out hs3 HL24.out ?_; intro v9 w9 ho9 hg9 hat9)
                have hb9 : Below wp.heap.size wr w9 := ⟨hg9.os, hg9.tape, hg9.output, hg9.size, fun j hj => hg9.block j (by omega) (fun e => by have := (HO2.out.typed j e.symm).1; omega)⟩
                exact ⟨⟨i + 1, _, by omega, by go_num, by rw [HGS.out, HRW8.out]; exact ho9, (HB2.out.trans (HBW8.out.mono hsz2)).trans hb9⟩, by simp [intOf]; omega⟩
          · have hd9 : decide ((i : Int) < n) = false := decide_eq_false (by omega)
            obtain rfl : i = n := by omega
            have hsw := HB.out.size
            go_wp2_with fail
            go_ret
            refine ⟨_, okc, rfl, ?_, HB.out.trans (HB2.out.mono hsw)⟩
            rw [HTK2.out, HFC.out]
            exact HO.out.lower hsw
    · have hd : decide ((i : Int) < sv.length) = false := decide_eq_false (by omega)
      have hPk : P.length = k := by
        have h1 := HKL.out
        obtain rfl : i = sv.length := by omega
        rw [HPP.out] at h1
        omega
      have htk := HTK.out hPk
      have HTK2 := Lib.hid htk
      obtain ⟨fc, hfc⟩ : ∃ fc, P.map (fun j => css.getD j []) = fc := ⟨_, rfl⟩
      have hfl : fc.length = k := by rw [← hfc, List.length_map, hPk]
      have hPh : ∀ j ∈ P, j < sv.length ∧ (sv.getD j (none, 0, 0)).1.isSome = true := fun j hj => by
        rw [← HPP.out] at hj
        have h1 := List.mem_filter.1 hj
        exact ⟨by have := List.mem_range.1 h1.1; omega, h1.2⟩
      have hfL : ∀ cs ∈ fc, cs.length = L := fun cs hcs => by
        rw [← hfc] at hcs
        obtain ⟨j, hj, rfl⟩ := List.mem_map.1 hcs
        obtain ⟨h1, h2⟩ := hPh j hj
        exact HLEN.out j h1 (by simpa [List.getD_eq_getElem?_getD, h1] using h2)
      have hfB : ∀ cs ∈ fc, ∀ y ∈ cs, y < 256 := fun cs hcs => by
        rw [← hfc] at hcs
        obtain ⟨j, hj, rfl⟩ := List.mem_map.1 hcs
        exact HBB.out j
      have hPb : ∀ y ∈ P, y < 256 := fun y hy => by have := (hPh y hy).1; omega
      have hRF : RR wr Af fc := by
        refine RR.ofRow (base := w.heap.size) (e := 29) (cf := cf) (vals := P.map fun j => sdv (sv.getD j (none, 0, 0))) (by rw [hfl, ← hPk]; exact HF.out) (fun q hq => ?_)
        have hqP : q < P.length := by omega
        obtain ⟨h1, h2⟩ := hPh _ (List.getElem_mem hqP)
        have hg : sv.getD P[q] (none, 0, 0) = sv[P[q]] := by simp [List.getD_eq_getElem?_getD, h1]
        obtain ⟨c1, c2, c3⟩ := HCS.out P[q] h1
        have e1 : fc[q] = css.getD P[q] [] := by simp [← hfc]
        rw [e1]
        refine ⟨sv[P[q]].1, sv[P[q]].2.2, ?_, c3, c1.below HB.out⟩
        rw [List.getElem?_map, List.getElem?_eq_getElem hqP, Option.map_some, hg, ← c2]
        rfl
      have hwt := fun (W : World) (x : Nat) (hr : RN .u8 W Ap P) (hx : x < 256) => rWeights_c Ap cp P x W hr hPb hx (by omega)
      have HWT := Lib.hid hwt
      have HRF := Lib.hid hRF
      have HFL := Lib.hid hfl
      have HFLL := Lib.hid hfL
      have HFB := Lib.hid hfB
      have HFC := Lib.hid hfc
      have hE := SRow.empty wr wr.heap.size 29 (Nat.le_refl _)
      have hbE : Below wr.heap.size wr (wr.alloc (.cells #[] 29)) := (Below.refl _ _).alloc (Nat.le_refl _) _
      have HE := Lib.hid hE
      have HBE := Lib.hid hbE
      have HPK := Lib.hid hPk
      have hP0 : 0 < P.length := by omega
      have hP0i : (0 : Int) < P.length := by omega
      clear htk hPh hRF hwt hfl hfL hfB hfc hE hbE hPb hcp hcf HP HF hPk
      obtain ⟨wp, rfl⟩ : ∃ wp : World, wp = wr := ⟨_, rfl⟩
      go_wp2_with fail
      go_loopw [10, 11] (fun vo vi W => ∃ (i : Nat) (okc : Nat → Prop), i ≤ n ∧ vi = .int .i64 i ∧ SRow W okc wp.heap.size 29 vo (grpR fc P L i) ∧ Below wp.heap.size wp W) (fun _ vi _ => n - (intOf vi).toNat)
      case atStart => exact ⟨0, fun _ => False, by omega, rfl, HE.out, HBE.out⟩
      case round =>
        obtain ⟨i, okc, hi, rfl, ho, hB2⟩ := hrel
        have HO := Lib.hid ho
        have HB2 := Lib.hid hB2
        have hsz2 := hB2.size
        clear ho hB2
        by_cases hlt : i < n
        · have hd9 : decide ((i : Int) < n) = true := decide_eq_true (by omega)
          have i2 : (i : Int) < 256 := by omega
          have i3 : (0 : Int) ≤ (i : Int) := by omega
          have hgs := grpR_succ fc P L i
          have hgl := grpR_len fc P L i
          have hl24 : ((grpR fc P L i).length + 1) * 24 ≤ 140737488355328 := by rw [hgl]; omega
          have HL24 := Lib.hid hl24
          have HGS := Lib.hid hgs
          have hrv := refV_eq fc P i L HFB.out
          have HRV := Lib.hid hrv
          have hlo : ∀ b, u10.ownBlock = some b → b < wr.heap.size := fun b hb => (HO.out.typed b hb).2.1
          have HLO := Lib.hid hlo
          obtain ⟨wo, rfl⟩ : ∃ wo : World, wo = wr := ⟨_, rfl⟩
          clear hgs hgl hl24 hrv hlo
          go_wp2_with fail
          refine (HWT.out _ i (HRP.out.below HB2.out) (by omega)).mono ?_
          rintro e w5 ⟨v5, rfl, ho5, hb5⟩
          obtain ⟨A5, c5, rfl, hc5, hn5, ha5, hr5⟩ := ho5.form
          have hwl := weights_len P i
          have hwb := weights_lt (l := P) (a := i)
          obtain ⟨ws, hws⟩ : ∃ ws, weights P i = ws := ⟨_, rfl⟩
          rw [hws] at hr5 hc5 hwl hwb ⊢
          have hrvd : ∀ q, (List.range q).map (fun b => gdot ws (colAt fc b)) = refV fc P i q := fun q => by unfold refV; rw [hws]
          have hE5 := empty_lit w5
          have hbE5 : Below w5.heap.size w5 (w5.alloc (.cells #[] 5)) := (Below.refl _ _).alloc (Nat.le_refl _) _
          obtain ⟨ad1, A1, c1, e1, q1, l1, r1⟩ := ((HRF.out.below HB2.out).below hb5).at 0 (by rw [HFL.out]; omega)
          subst e1
          rw [HFLL.out _ (List.getElem_mem _), show ad1.add 0 = ad1 by unfold Addr.add; simp] at q1
          have HB5 := Lib.hid hb5
          have HR5 := Lib.hid hr5
          have HWL := Lib.hid hwl
          have HWB := Lib.hid hwb
          have HE5 := Lib.hid hE5
          have HBE5 := Lib.hid hbE5
          have HRVD := Lib.hid hrvd
          have HQ1 := Lib.hid q1
          have hL2 : (L : Int) ≤ 4096 := by omega
          clear ho5 hb5 hr5 hwl hwb hws hE5 hbE5 hrvd q1 l1 r1 hn5 ha5
          go_wp2_with fail
          go_loopw [13, 14] (fun vs vb W => ∃ b : Nat, b ≤ L ∧ vb = .int .i64 b ∧ OwnN .u8 5 W w5.heap.size vs ((List.range b).map (fun b => gdot ws (colAt fc b))) ∧ Below w5.heap.size w5 W) (fun _ vb _ => L - (intOf vb).toNat)
          case atStart => exact ⟨0, by omega, rfl, HE5.out, HBE5.out⟩
          case round =>
            obtain ⟨b, hb, rfl, hs, hB6⟩ := hrel
            have HS := Lib.hid hs
            have HB6 := Lib.hid hB6
            have hsz6 := hB6.size
            have q1 : wr.cell? ad1 = some (.slice A1 L c1) := (HB6.out.cell (World.block_lt_of_cell? _ _ HQ1.out)).trans HQ1.out
            clear hs hB6
            by_cases hbl : b < L
            · have hdb : decide ((b : Int) < L) = true := decide_eq_true (by omega)
              have hcll : (colAt fc b).length = k := by rw [← HFL.out]; simp [colAt]
              have hcb := col_lt HFB.out b
              have hsn : (List.range (b + 1)).map (fun b => gdot ws (colAt fc b)) = (List.range b).map (fun b => gdot ws (colAt fc b)) ++ [gdot ws (colAt fc b)] := by rw [List.range_succ, List.map_append]; rfl
              have hcat : ∀ q (hq : q < fc.length) (hq2 : b < fc[q].length), (colAt fc b)[q]? = some fc[q][b] := fun q hq hq2 => by simp [colAt, List.getD_eq_getElem?_getD, hq, hq2]
              obtain ⟨cl, hcl⟩ : ∃ cl, colAt fc b = cl := ⟨_, rfl⟩
              simp only [hcl] at hcll hcb hsn hcat
              obtain ⟨T, hT⟩ : ∃ T, gdot ws cl = T := ⟨_, rfl⟩
              rw [hT] at hsn
              have HSN := Lib.hid hsn
              have HTT := Lib.hid hT
              have HCAT := Lib.hid hcat
              have HCLL := Lib.hid hcll
              have HCB := Lib.hid hcb
              have b0 : (0 : Int) ≤ (b : Int) := by omega
              have b1 : (b : Int) < (L : Int) := by omega
              clear hcll hcb hsn hcat hcl hT
              obtain ⟨wi, rfl⟩ : ∃ wi : World, wi = wr := ⟨_, rfl⟩
              go_wp2_with fail
              go_loopw [15, 16] (fun vx vj W => ∃ j x : Nat, j ≤ k ∧ vj = .int .i64 j ∧ vx = .int .u8 x ∧ x < 256 ∧ x ^^^ gdot (ws.drop j) (cl.drop j) = T ∧ ∃ nn, W = wi.drewN nn) (fun _ vj _ => k - (intOf vj).toNat)
              case atStart => exact ⟨0, 0, by omega, rfl, rfl, by omega, by simpa using HTT.out, 0, rfl⟩
              case round =>
                obtain ⟨j, x, hj, rfl, rfl, hx, hxT, nn, hnn⟩ := hrel
                subst hnn
                by_cases hjk : j < k
                · have hwlen : ws.length = k := by rw [HWL.out, HPK.out]
                  have hdj : decide ((j : Int) < ws.length) = true := decide_eq_true (by rw [hwlen]; omega)
                  have hjw : j < ws.length := by rw [hwlen]; exact hjk
                  obtain ⟨adw, ew, hcw⟩ := (HR5.out.below HB6.out).at j hjw
                  subst ew
                  have hjf : j < fc.length := by rw [HFL.out]; exact hjk
                  obtain ⟨adf, Aj, cj, ej, qj, lj, rj⟩ := (((HRF.out.below HB2.out).below HB5.out).below HB6.out).at j hjf
                  injection ej with ej
                  subst ej
                  have hlj := HFLL.out _ (List.getElem_mem hjf)
                  rw [hlj] at qj lj
                  obtain ⟨adj, eaj, hcj⟩ := rj.at b (by omega)
                  subst eaj
                  have hcv := (List.getElem?_eq_some_iff.1 (HCAT.out j hjf (by omega))).2
                  have hgd := gdot_drop (a := ws) (b := cl) (i := j) hjw (by rw [HCLL.out]; exact hjk)
                  rw [hcv] at hgd
                  have hy : fc[j][b]'(by omega) < 256 := HFB.out _ (List.getElem_mem hjf) _ (List.getElem_mem _)
                  have hwj : ws[j] < 256 := HWB.out _ (List.getElem_mem hjw)
                  obtain ⟨y, hye⟩ : ∃ y, fc[j][b]'(by omega) = y := ⟨_, rfl⟩
                  obtain ⟨z, hze⟩ : ∃ z, ws[j] = z := ⟨_, rfl⟩
                  rw [hye] at hcj hgd hy
                  rw [hze] at hcw hgd hwj
                  rw [hgd, ← Nat.xor_assoc] at hxT
                  have hmm := fun w => refMul_c z y hwj hy w
                  have lm : gm z y < 256 := gm_lt hwj _
                  have hxx := u8_xor_nat x (gm z y) hx lm
                  have lx : x ^^^ gm z y < 256 := Nat.xor_lt_two_pow (n := 8) hx lm
                  have HMM := Lib.hid hmm
                  have HXT := Lib.hid hxT
                  have j0 : (0 : Int) ≤ (j : Int) := by omega
                  have j1 : (j : Int) < (ws.length : Int) := by omega
                  have j2 : (j : Int) < (k : Int) := by omega
                  have j3 : (j : Int) < (P.length : Int) := by have := HPK.out; omega
                  clear hlj hcv hgd hye hze hxT hmm hwlen rj
                  go_wp2_with fail
                  go_quiet ((first | exact quiet_add (HMM.out _) | exact quiet_same (HMM.out _)))
                  go_wp2_with fail
                  exact ⟨⟨j + 1, _, by omega, by go_num, rfl, lx, HXT.out, _, rfl⟩, by simp [intOf]; omega⟩
                · have hwlen : ws.length = k := by rw [HWL.out, HPK.out]
                  have hdj : decide ((j : Int) < ws.length) = false := decide_eq_false (by rw [hwlen]; omega)
                  have hdjn : decide (j < ws.length) = false := decide_eq_false (by rw [hwlen]; omega)
                  have hdji : ¬ (j : Int) < ws.length := by rw [hwlen]; omega
                  have hdjm : ¬ j < ws.length := by rw [hwlen]; omega
                  obtain rfl : j = k := by omega
                  rw [gdot_end ws cl (.inl (by omega)), Nat.xor_zero] at hxT
                  have hdr : Below wi.heap.size wi (wi.drewN nn) := pw_below_drewN (Below.refl _ _) nn
                  have hs2 := HS.out.move (W' := wi.drewN nn) (fun _ _ => rfl)
                  have hb62 : Below w5.heap.size w5 (wi.drewN nn) := HB6.out.trans (hdr.mono hsz6)
                  have hl2 : (((List.range b).map (fun b => gdot ws (colAt fc b))).length + 1) * 1 ≤ 140737488355328 := by simp; omega
                  have hbs6 := hb62.size
                  have HS2 := Lib.hid hs2
                  have HB62 := Lib.hid hb62
                  have HL2 := Lib.hid hl2
                  have HXT := Lib.hid hxT
                  clear hdr hs2 hb62 hl2 hxT hwlen
                  go_wp2_with (at_builtin; refine append_N (w0 := w5) w5.heap.size rfl (.tmp 87) (.tmp 89) 29 5 .u8 1 rfl Try.underlying29 info_u8 (by decide) u13 ((List.range b).map (fun b => gdot ws (colAt fc b))) x rfl (wi.drewN nn).heap.size rfl rfl HS2.out HB62.out hbs6 HL2.out ?_; intro v7 w7 ho7 hb7)
                  exact ⟨⟨b + 1, by omega, by go_num, by rw [HSN.out, ← HXT.out]; exact ho7, hb7⟩, by simp [intOf]; omega⟩
            · have hdb : decide ((b : Int) < L) = false := decide_eq_false (by omega)
              obtain rfl : b = L := by omega
              have hs2 := HS.out
              rw [HRVD.out, HRV.out] at hs2
              have hal2 : (atV fc P i b).length = b := by simp [atV]
              obtain ⟨A8, c8, rfl, hc8, hn8, ha8, hr8⟩ := hs2.form
              have hfr := hs2.fresh (N := wo.heap.size) (by have := HB5.out.size; omega) HLO.out
              have hbw8 : Below wo.heap.size wo wr := HB5.out.trans (HB6.out.mono HB5.out.size)
              have HO2 := Lib.hid (HO.out.below hbw8)
              have HR8 := Lib.hid hr8
              have HFR := Lib.hid hfr
              have HBW8 := Lib.hid hbw8
              have hs3 : wp.heap.size ≤ wr.heap.size := Nat.le_trans hsz2 hbw8.size
              obtain ⟨rw8, hrw8⟩ : ∃ r, atV fc P i b = r := ⟨_, rfl⟩
              rw [hrw8] at HR8 hc8 hal2 ⊢
              have HRW8 := Lib.hid hrw8
              clear hs2 hr8 hfr hbw8 hn8 ha8 hrw8 hal2
              go_wp2_with (at_builtin; refine append_S wp.heap.size rfl (.tmp 91) (.tmp 93) 22 29 rfl Try.underlying22 info_bytes u10 okc (grpR fc P b i) A8 c8 rw8 rfl wr.heap.size rfl rfl HO2.out HR8.out hc8 HFR.out hs3 HL24.out ?_; intro v9 w9 ho9 hg9 hat9)
              have hb9 : Below wp.heap.size wr w9 := ⟨hg9.os, hg9.tape, hg9.output, hg9.size, fun j hj => hg9.block j (by omega) (fun e => by have := (HO2.out.typed j e.symm).1; omega)⟩
              exact ⟨⟨i + 1, _, by omega, by go_num, by rw [HGS.out, HRW8.out]; exact ho9, (HB2.out.trans (HBW8.out.mono hsz2)).trans hb9⟩, by simp [intOf]; omega⟩
        · have hd9 : decide ((i : Int) < n) = false := decide_eq_false (by omega)
          obtain rfl : i = n := by omega
          have hsw := HB.out.size
          go_wp2_with fail
          go_ret
          refine ⟨_, okc, rfl, ?_, HB.out.trans (HB2.out.mono hsw)⟩
          rw [HTK2.out, HFC.out]
          exact HO.out.lower hsw
end Go.Proofs.Ytdmfecaejdiihaa.F
