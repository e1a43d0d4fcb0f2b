/- The document's sum, walked. -/
import Derived.Test.YtejmklfhcealnaaDu
import Derived.Test.YtejmklfhcealnaaDa
import Derived.Test.YtejmklfhcealnaaAp
import Derived.Test.YtejmklfhcealnaaAk
import Derived.Test.YtejmklfhcealnaaDc
import Derived.Test.YtejmklfhcealnaaDt
import Derived.Deep.RegionHeldLaw
import Derived.StillTailTactics
set_option linter.unusedVariables false
set_option linter.unusedSimpArgs false
namespace Go.Proofs.Ytejmklfhcealnaa.F
open Go.RowKit Go.Proofs.YtejmklfhcealnaaW.PrintWords
attribute [local go_sem ↓] Go.wp_at_zero Go.wp_at_succ

theorem info_u32 : (Try.prog.info? 70).map (fun i => (i.zero, i.size, i.bytes)) = some (some (.int .u32 0), 1, 4) := by kernel_rfl
theorem RN.at0 {k : IntKind} {W : World} {g : Nat} {xs : List Nat} (h : RN k W (some ⟨g, 0, none⟩) xs) (i : Nat) (hi : i < xs.length) : W.cell? ⟨g, i, none⟩ = some (.int k (xs[i] : Nat)) := by
  obtain ⟨ad, e, hc⟩ := h.at i hi
  injection e with e
  subst e
  have e2 : (⟨g, 0, none⟩ : Addr).add i = ⟨g, i, none⟩ := by
    unfold Addr.add
    split
    · rename_i h0; subst h0; rfl
    · simp
  rw [e2] at hc
  exact hc
theorem lit_reads (k : IntKind) (e : TypeId) (w : World) (xs : List Nat) (hm : xs.length ≤ 9223372036854775807) :
    RN k (w.alloc (.cells (xs.map (encN k)).toArray e)) (some ⟨w.heap.size, 0, none⟩) xs := by
  have h : OwnN k e (w.alloc (.cells (xs.map (encN k)).toArray e)) w.heap.size (.slice (some ⟨w.heap.size, 0, none⟩) xs.length xs.length) xs := own_lit_of (enc := encN k) w w.heap.size e xs (Nat.le_refl _) hm
  obtain ⟨A, c, he, _, hr⟩ := h.reads
  injection he with h1 h2 h3
  rw [h1]
  exact hr
theorem OwnN.form0 {k : IntKind} {e : TypeId} {W : World} {base : Nat} {v : Value} {xs : List Nat} (h : OwnN k e W base v xs) (hx : 0 < xs.length) :
    ∃ g cap, v = .slice (some ⟨g, 0, none⟩) xs.length cap ∧ base ≤ g ∧ g < W.heap.size ∧ xs.length ≤ cap := by
  rcases h.2 with ⟨_, h0⟩ | ⟨g, cap, cur, e2, hb, hh, hc, _⟩
  · omega
  · exact ⟨g, cap, e2, hb, (Array.getElem?_eq_some_iff.1 hh).1, hc⟩
theorem OwnN.reads0 {k : IntKind} {e : TypeId} {W : World} {base g cap : Nat} {n : Nat} {xs : List Nat} (h : OwnN k e W base (.slice (some ⟨g, 0, none⟩) n cap) xs) : RN k W (some ⟨g, 0, none⟩) xs := by
  obtain ⟨A, c, e2, _, hr⟩ := h.reads
  injection e2 with h1 h2 h3
  rw [h1]
  exact hr
theorem empty_own (k : IntKind) (e : TypeId) (w : World) : OwnN k e (w.alloc (.cells #[] e)) w.heap.size (.slice (some ⟨w.heap.size, 0, none⟩) 0 0) [] := by
  have := own_lit_of (enc := encN k) w w.heap.size e [] (by simp) (by simp)
  simp only [List.map_nil, List.length_nil, encs] at this
  exact this
theorem u32_in (n : Int) (h0 : 0 ≤ n) (h1 : n < 4294967296) : IntKind.u32.wrap n = n := by
  rw [IntKind.wrap_u32']
  exact Int.emod_eq_of_lt h0 h1
theorem RN.ofCells {W : World} {g : Nat} {t : TypeId} {xs : List Nat} (h : W.heap[g]? = some (.cells (tabA xs) t (0, 0))) (hm : xs.length ≤ 9223372036854775807) : RN .u32 W (some ⟨g, 0, none⟩) xs := by
  refine Kd.C_of_reads (d := 0) ⟨rfl, by omega, fun hp => ⟨⟨g, 0, none⟩, rfl, fun j hj => ?_⟩⟩
  have e2 : (⟨g, 0, none⟩ : Addr).add j = ⟨g, j, none⟩ := by
    unfold Addr.add
    split
    · rename_i h0; subst h0; rfl
    · simp
  rw [e2, cell_of_row _ _ _ _ _ _ h, tabA_get _ _ hj]
  simp [List.getD_eq_getElem?_getD, hj, encN]
theorem blk_get (ms : List Nat) (j q i : Nat) (hm : ms.length = 64 * q) (hj : j < q) (hi : i < 64) : ((ms.drop (64 * j)).take 64).getD i 0 = ms[64 * j + i]'(by omega) := by
  rw [List.getD_eq_getElem?_getD, List.getElem?_take, if_pos hi, List.getElem?_drop, List.getElem?_eq_getElem (by omega)]
  rfl
theorem or4 (b0 b1 b2 b3 : Nat) (h0 : b0 < 256) (h1 : b1 < 256) (h2 : b2 < 256) (h3 : b3 < 256) :
    Go.bits .or .u32 ((b0 : Int) * 16777216) ((b1 : Int) * 65536) = ((b0 * 16777216 + b1 * 65536 : Nat) : Int) ∧
    Go.bits .or .u32 ((b0 * 16777216 + b1 * 65536 : Nat) : Int) ((b2 : Int) * 256) = ((b0 * 16777216 + b1 * 65536 + b2 * 256 : Nat) : Int) ∧
    Go.bits .or .u32 ((b0 * 16777216 + b1 * 65536 + b2 * 256 : Nat) : Int) (b3 : Int) = ((((b0 * 256 + b1) * 256 + b2) * 256 + b3 : Nat) : Int) := by
  refine ⟨?_, ?_, ?_⟩
  · rw [show (b0 : Int) * 16777216 = ((b0 * 16777216 : Nat) : Int) by omega, show (b1 : Int) * 65536 = ((b1 * 65536 : Nat) : Int) by omega, u32_or_nat _ _ (by omega) (by omega), nat_join 24 _ _ (by omega) (by omega)]
  · rw [show (b2 : Int) * 256 = ((b2 * 256 : Nat) : Int) by omega, u32_or_nat _ _ (by omega) (by omega), nat_join 16 _ _ (by omega) (by omega)]
  · rw [u32_or_nat _ _ (by omega) (by omega), nat_join 8 _ _ (by omega) (by omega), show b0 * 16777216 + b1 * 65536 + b2 * 256 + b3 = ((b0 * 256 + b1) * 256 + b2) * 256 + b3 by omega]
theorem wd_at (ms : List Nat) (j q t : Nat) (hm : ms.length = 64 * q) (hj : j < q) (ht : t < 16) :
    wd ((ms.drop (64 * j)).take 64) t = ((ms[64 * j + 4 * t]'(by omega) * 256 + ms[64 * j + 4 * t + 1]'(by omega)) * 256 + ms[64 * j + 4 * t + 2]'(by omega)) * 256 + ms[64 * j + 4 * t + 3]'(by omega) := by
  rw [wd_lo _ t ht, blk_get ms j q _ hm hj (by omega), blk_get ms j q _ hm hj (by omega), blk_get ms j q _ hm hj (by omega), blk_get ms j q _ hm hj (by omega)]
  rfl

set_option maxRecDepth 100000 in
set_option maxHeartbeats 100000000 in
theorem refSum_c (A : Option Addr) (c : Nat) (p : List Nat) (w : World) (hr : RN .u8 w A p) (hp : ∀ x ∈ p, x < 256) (hl : p.length ≤ 140737488351232) :
    Calls Try.prog 23 #[.slice A p.length c] w fun e w' => e = .returned (.agg (shaA p)) ∧ Below w.heap.size w w' := by
  have hz := zero32
  obtain ⟨R, hR⟩ : ∃ R, shaA p = R := ⟨_, rfl⟩
  have hsA : R = tabK .u8 32 (byteS (mixes beginS (p ++ padN p.length) ((p.length + (padN p.length).length) / 64))) := hR.symm
  obtain ⟨q, hq⟩ : ∃ q, (p ++ padN p.length).length = 64 * q := ⟨(p ++ padN p.length).length / 64, by have := padN_len p.length; rw [List.length_append]; omega⟩
  rw [show (p.length + (padN p.length).length) / 64 = q by rw [List.length_append] at hq; omega] at hsA
  have hmb : ∀ x ∈ p ++ padN p.length, x < 256 := by
    intro x hx
    rcases List.mem_append.1 hx with h | h
    · exact hp x h
    · rw [padN_eq] at h
      rcases List.mem_append.1 h with h | h
      · rcases List.mem_cons.1 h with h | h
        · omega
        · have := List.eq_of_mem_replicate h; omega
      · exact bigN_lt _ _ x h
  have hpad := fun W hr => Padded_c A c p W hr hl
  have hqb : 64 * q ≤ 140737488351232 + 200 := by
    rw [← hq, List.length_append, padN_eq]
    simp only [List.length_append, List.length_cons, List.length_replicate, bigN_len]
    omega
  obtain ⟨ms, hms⟩ : ∃ ms, p ++ padN p.length = ms := ⟨_, rfl⟩
  rw [hms] at hsA hq hmb hpad
  have hq0 : 0 < q := by
    have := congrArg List.length hms
    rw [List.length_append, padN_eq] at this
    simp only [List.length_append, List.length_cons] at this
    omega
  have HSA := Lib.hid hsA
  have HQ := Lib.hid hq
  have HMB := Lib.hid hmb
  have HPAD := Lib.hid hpad
  have HRR := Lib.hid hR
  clear hsA hq hmb hpad hR hms hp
  obtain ⟨W1, hW1⟩ : ∃ W1, (w.alloc (.cells zeros32 36)).alloc (.cells beginS.val 70) = W1 := ⟨_, rfl⟩
  have hb1 : Below w.heap.size w W1 := by rw [← hW1]; exact ((Below.refl _ _).alloc (Nat.le_refl _) _).alloc (by simp) _
  have hs1 : W1.heap.size = w.heap.size + 2 := by rw [← hW1]; simp
  have g0 : W1.heap[w.heap.size]? = some (.cells zeros32 36 (0, 0)) := by rw [← hW1]; exact heap_alloc2_old _ _ _
  have g1 : W1.heap[w.heap.size + 1]? = some (.cells beginS.val 70 (0, 0)) := by rw [← hW1]; exact heap_alloc2_new _ _ _
  have HW1 := Lib.hid hW1
  have G0 := Lib.hid g0
  have G1 := Lib.hid g1
  have HR1 := Lib.hid (hr.below hb1)
  clear hW1 g0 g1 hr
  go_enter Try.func23, Try.ntmps23
  go_wp2_with fail
  rw [show ((w.alloc (.cells zeros32 36)).alloc (.cells #[.int .u32 1779033703, .int .u32 3144134277, .int .u32 1013904242, .int .u32 2773480762, .int .u32 1359893119, .int .u32 2600822924, .int .u32 528734635, .int .u32 1541459225] 70)) = W1 from HW1.out]
  refine (K_c _).mono ?_
  rintro e w2 ⟨rfl, hw2⟩
  have hb2 : Below W1.heap.size W1 w2 := by rw [hw2]; exact (Below.refl _ _).alloc (Nat.le_refl _) _
  have g2 : w2.heap[w.heap.size + 2]? = some (.cells (tabA Kw) 70 (0, 0)) := by rw [hw2, ← hs1]; exact heap_alloc_new _ _
  have hs2 : w2.heap.size = w.heap.size + 3 := by rw [hw2]; simp; omega
  rw [hs1]
  have HR2 := Lib.hid (HR1.out.below hb2)
  have G2 := Lib.hid g2
  have hb2' : Below w.heap.size w w2 := hb1.trans (hb2.mono hb1.size)
  have G0 := Lib.hid ((hb2.block _ (by omega)).trans G0.out)
  have G1 := Lib.hid ((hb2.block _ (by omega)).trans G1.out)
  clear hw2 g2 hb1 hb2 hs1
  go_wp2_with fail
  refine (HPAD.out _ HR2.out).mono ?_
  rintro e w3 ⟨vm, rfl, hom, hb3⟩
  obtain ⟨gm, cm, rfl, hgm, hgl, hcm⟩ := hom.form0 (by rw [HQ.out]; omega)
  have hrm := hom.reads0
  have hs3 := hb3.size
  have G0 := Lib.hid ((hb3.block _ (by omega)).trans G0.out)
  have G1 := Lib.hid ((hb3.block _ (by omega)).trans G1.out)
  have G2 := Lib.hid ((hb3.block _ (by omega)).trans G2.out)
  have HRM := Lib.hid hrm
  have hB3 : Below w.heap.size w w3 := hb2'.trans (hb3.mono (by omega))
  have hmm : (ms.length : Int) ≤ 140737488351432 := by rw [HQ.out]; omega
  clear hom hb3 hrm hb2'
  go_wp2_with fail
  go_loopw [6] (fun vi W => ∃ j : Nat, j ≤ q ∧ vi = .int .i64 (64 * j : Nat) ∧ W.heap[w.heap.size + 1]? = some (.cells (mixes beginS ms j).val 70 (0, 0)) ∧ W.heap[w.heap.size + 2]? = some (.cells (tabA Kw) 70 (0, 0)) ∧ RN .u8 W (some ⟨gm, 0, none⟩) ms ∧ W.heap[w.heap.size]? = some (.cells zeros32 36 (0, 0)) ∧ Below w.heap.size w W ∧ w.heap.size + 3 ≤ W.heap.size) (fun vi _ => 64 * q - (intOf vi).toNat)
  case atStart => exact ⟨0, by omega, rfl, G1.out, G2.out, HRM.out, G0.out, hB3, by omega⟩
  case round =>
    obtain ⟨j, hj, rfl, h1, h2, hrm, h0, hW, hsz⟩ := hrel
    have H1 := Lib.hid h1
    have H2 := Lib.hid h2
    have HRM := Lib.hid hrm
    have H0 := Lib.hid h0
    have HW := Lib.hid hW
    clear h1 h2 hrm h0 hW
    have hml := HQ.out
    by_cases hlt : j < q
    · have hd : decide (((64 * j : Nat) : Int) < ms.length) = true := decide_eq_true (by rw [hml]; omega)
      have HML := Lib.hid hml
      clear hml
      obtain ⟨x0, hx0⟩ : ∃ x0, 64 * j = x0 := ⟨_, rfl⟩
      have hx0l : x0 + 64 ≤ ms.length := by rw [HML.out]; omega
      have hd : decide ((x0 : Int) < ms.length) = true := decide_eq_true (by omega)
      have hdn : decide (x0 < ms.length) = true := decide_eq_true (by omega)
      rw [hx0]
      have HX0 := Lib.hid hx0
      clear hx0
      obtain ⟨blk, hblk⟩ : ∃ blk, (ms.drop (64 * j)).take 64 = blk := ⟨_, rfl⟩
      have hbb : ∀ x ∈ blk, x < 256 := fun x hx => HMB.out x (by rw [← hblk] at hx; exact List.mem_of_mem_drop (List.mem_of_mem_take hx))
      have HBK := Lib.hid hblk
      clear hblk
      obtain ⟨wo, rfl⟩ : ∃ wo : World, wo = wr := ⟨_, rfl⟩
      have hgm2 : gm < wo.heap.size := World.block_lt_of_cell? _ _ (HRM.out.at0 0 (by omega))
      have hoe := empty_own .u32 70 wo
      have hbe : Below wo.heap.size wo (wo.alloc (.cells #[] 70)) := (Below.refl _ _).alloc (Nat.le_refl _) _
      have HOE := Lib.hid hoe
      have HBE := Lib.hid hbe
      clear hoe hbe
      go_wp2_with fail
      go_loopw [7, 8] (fun vw vt W => ∃ t : Nat, t ≤ 64 ∧ vt = .int .i64 t ∧ OwnN .u32 70 W wo.heap.size vw ((List.range t).map (wd blk)) ∧ Below wo.heap.size wo W) (fun _ vt _ => 64 - (intOf vt).toNat)
      case atStart => exact ⟨0, by omega, rfl, HOE.out, HBE.out⟩
      case round =>
        obtain ⟨t, ht, rfl, hov, hWt⟩ := hrel
        have hws := hWt.size
        have hws0 : wo.heap.size ≤ wo.heap.size := Nat.le_refl _
        by_cases hlt : t < 64
        · have hd : decide ((t : Int) < 64) = true := decide_eq_true (by omega)
          have hsn : (List.range (t + 1)).map (wd blk) = (List.range t).map (wd blk) ++ [wd blk t] := by rw [List.range_succ, List.map_append]; rfl
          have hwl := wd_lt hbb t
          have hlen : ((List.range t).map (wd blk)).length = t := by simp
          have hly : (((List.range t).map (wd blk)).length + [wd blk t].length) * 4 ≤ 140737488355328 := by rw [hlen]; simp; omega
          by_cases h16 : t < 16
          · as_aux_lemma =>
            have d16 : decide ((t : Int) < 16) = true := decide_eq_true (by omega)
            have hwd := wd_at ms j q t HML.out (by omega) h16
            rw [HBK.out] at hwd
            have hx4 : 64 * j + 4 * t = x0 + 4 * t := by rw [HX0.out]
            have hrm := HRM.out.below hWt
            obtain ⟨x, hx⟩ : ∃ x, x0 + 4 * t = x := ⟨_, rfl⟩
            have hxe : 64 * j + 4 * t = x := by omega
            have c0 := hrm.at0 x (by omega)
            have c1 := hrm.at0 (x + 1) (by omega)
            have c2 := hrm.at0 (x + 2) (by omega)
            have c3 := hrm.at0 (x + 3) (by omega)
            simp only [hxe] at hwd
            have l0 : ms[x]'(by omega) < 256 := HMB.out _ (List.getElem_mem _)
            have l1 : ms[x + 1]'(by omega) < 256 := HMB.out _ (List.getElem_mem _)
            have l2 : ms[x + 2]'(by omega) < 256 := HMB.out _ (List.getElem_mem _)
            have l3 : ms[x + 3]'(by omega) < 256 := HMB.out _ (List.getElem_mem _)
            obtain ⟨b0, e0⟩ : ∃ b, ms[x]'(by omega) = b := ⟨_, rfl⟩
            obtain ⟨b1, e1⟩ : ∃ b, ms[x + 1]'(by omega) = b := ⟨_, rfl⟩
            obtain ⟨b2, e2⟩ : ∃ b, ms[x + 2]'(by omega) = b := ⟨_, rfl⟩
            obtain ⟨b3, e3⟩ : ∃ b, ms[x + 3]'(by omega) = b := ⟨_, rfl⟩
            rw [e0] at c0 l0 hwd
            rw [e1] at c1 l1 hwd
            rw [e2] at c2 l2 hwd
            rw [e3] at c3 l3 hwd
            obtain ⟨o1, o2, o3⟩ := or4 b0 b1 b2 b3 l0 l1 l2 l3
            rw [← hwd] at o3
            obtain ⟨y, hy⟩ : ∃ y, wd blk t = y := ⟨_, rfl⟩
            rw [hy] at o3 hsn hwl hly
            obtain ⟨y1, hy1⟩ : ∃ y1, b0 * 16777216 + b1 * 65536 = y1 := ⟨_, rfl⟩
            rw [hy1] at o1 o2 o3
            obtain ⟨y2, hy2⟩ : ∃ y2, y1 + b2 * 256 = y2 := ⟨_, rfl⟩
            rw [hy2] at o2 o3
            obtain ⟨ws, hws2⟩ : ∃ ws, (List.range t).map (wd blk) = ws := ⟨_, rfl⟩
            rw [hws2] at hov hsn hlen hly
            have HSN := Lib.hid hsn
            have HOV := Lib.hid hov
            have HWT := Lib.hid hWt
            have HLY := Lib.hid hly
            have HLEN := Lib.hid hlen
            have xl : (x : Int) + 3 < ms.length := by omega
            have hix : (x0 : Int) + 4 * t = (x : Int) := by omega
            have HIX := Lib.hid hix
            have HOV2 : Hid (OwnN .u32 70 (wr.alloc (.cells #[.int .u32 (y : Nat)] 70)).drew wo.heap.size u7 ws) := Lib.hid ((hov.kept ((Below.refl wr.heap.size wr).alloc (Nat.le_refl _) (.cells #[.int .u32 (y : Nat)] 70))).move (fun _ _ => rfl))
            have HLIT : Hid (RN .u32 (wr.alloc (.cells #[.int .u32 (y : Nat)] 70)).drew (some ⟨wr.heap.size, 0, none⟩) [y]) := Lib.hid ((lit_reads .u32 70 wr [y] (by simp)).move (fun _ _ => rfl))
            have hal : Below wo.heap.size wr ((wr.alloc (.cells #[.int .u32 (y : Nat)] 70)).drew) := ((Below.refl _ _).alloc hws _).drew
            have hbs : wo.heap.size ≤ (wr.alloc (.cells #[.int .u32 (y : Nat)] 70)).drew.heap.size := by simp; omega
            clear hy hy1 hy2 hwd e0 e1 e2 e3 hsn hov hWt hly hlen hws2 hx hxe hx4 hrm hix
            go_wp2_with fail
            rw [HIX.out]
            have t1 : ((x : Int) + 1).toNat = x + 1 := by omega
            have t2 : ((x : Int) + 2).toNat = x + 2 := by omega
            have t3 : ((x : Int) + 3).toNat = x + 3 := by omega
            have n0 : (0 : Int) ≤ (x : Int) := by omega
            have n1 : (0 : Int) ≤ (x : Int) + 1 := by omega
            have n2 : (0 : Int) ≤ (x : Int) + 2 := by omega
            have n3 : (0 : Int) ≤ (x : Int) + 3 := by omega
            have m0 : (x : Int) < ms.length := by omega
            have m1 : (x : Int) + 1 < ms.length := by omega
            have m2 : (x : Int) + 2 < ms.length := by omega
            have w1 : IntKind.i64.wrap ((x : Int) + 1) = (x : Int) + 1 := IntWalk.i64_in _ (by omega)
            have w2 : IntKind.i64.wrap ((x : Int) + 2) = (x : Int) + 2 := IntWalk.i64_in _ (by omega)
            have w3 : IntKind.i64.wrap ((x : Int) + 3) = (x : Int) + 3 := IntWalk.i64_in _ (by omega)
            have v0 := u32_in (b0 : Int) (by omega) (by omega)
            have v1 := u32_in (b1 : Int) (by omega) (by omega)
            have v2 := u32_in (b2 : Int) (by omega) (by omega)
            have v3 := u32_in (b3 : Int) (by omega) (by omega)
            have u0 := u32_in ((b0 : Int) * 16777216) (by omega) (by omega)
            have u1 := u32_in ((b1 : Int) * 65536) (by omega) (by omega)
            have u2 := u32_in ((b2 : Int) * 256) (by omega) (by omega)
            go_region_held_law (fun w' => w'.cell? ⟨gm, x, none⟩ = some (.int .u8 (b0 : Nat)) ∧ w'.cell? ⟨gm, x + 1, none⟩ = some (.int .u8 (b1 : Nat)) ∧ w'.cell? ⟨gm, x + 2, none⟩ = some (.int .u8 (b2 : Nat)) ∧ w'.cell? ⟨gm, x + 3, none⟩ = some (.int .u8 (b3 : Nat)))
              (first | exact ⟨K0, K1, K2, K3⟩ | exact ⟨c0, c1, c2, c3⟩ | go_keep)
              ((refine step_append_NNw (W := (wr.alloc (.cells #[.int .u32 (y : Nat)] 70)).drew) wo.heap.size (by rfl) (.tmp 42) (.tmp 72) 78 70 .u32 4 (by rfl) Try.underlying78 info_u32 (by decide) u7 ws [y] (some ⟨wr.heap.size, 0, none⟩) 1 (by rfl) (by rfl) HOV2.out HLIT.out hbs HLY.out ?_; intro v1 w1' ho1 hg1 hat1; have hb2 := hal.trans (below_grown HOV2.out hbs hg1); have K0 := (cell_move (a := ⟨gm, x, none⟩) (hb2.block gm hgm2)).trans c0; have K1 := (cell_move (a := ⟨gm, x + 1, none⟩) (hb2.block gm hgm2)).trans c1; have K2 := (cell_move (a := ⟨gm, x + 2, none⟩) (hb2.block gm hgm2)).trans c2; have K3 := (cell_move (a := ⟨gm, x + 3, none⟩) (hb2.block gm hgm2)).trans c3))
            have HB2 := Lib.hid hb2
            have HO1 := Lib.hid ho1
            clear K0 K1 K2 K3 c0 c1 c2 c3 hb2 ho1 hg1 hat1
            go_wp2_with fail
            exact ⟨⟨t + 1, by omega, by go_num, by rw [HSN.out]; exact HO1.out, HWT.out.trans (HB2.out.mono hws0)⟩, by simp [intOf]; omega⟩
          · as_aux_lemma =>
            have d16 : decide ((t : Int) < 16) = false := decide_eq_false (by omega)
            obtain ⟨gw, cw, e7, hgw, hgwl, hcw⟩ := hov.form0 (by simp; omega)
            subst e7
            have hrw := hov.reads0
            have gd : ∀ i (h : i < t), ((List.range t).map (wd blk))[i]'(by simp; exact h) = wd blk i := fun i h => by simp
            have c15 := hrw.at0 (t - 15) (by simp; omega)
            have c2 := hrw.at0 (t - 2) (by simp; omega)
            have c16 := hrw.at0 (t - 16) (by simp; omega)
            have c7 := hrw.at0 (t - 7) (by simp; omega)
            rw [gd _ (by omega)] at c15 c2 c16 c7
            have l15 := wd_lt hbb (t - 15)
            have l2 := wd_lt hbb (t - 2)
            have l16 := wd_lt hbb (t - 16)
            have l7 := wd_lt hbb (t - 7)
            have hnx := wd_hi blk t (by omega)
            obtain ⟨x15, e15⟩ : ∃ x, wd blk (t - 15) = x := ⟨_, rfl⟩
            obtain ⟨x2, e2⟩ : ∃ x, wd blk (t - 2) = x := ⟨_, rfl⟩
            obtain ⟨x16, e16⟩ : ∃ x, wd blk (t - 16) = x := ⟨_, rfl⟩
            obtain ⟨x7, e7⟩ : ∃ x, wd blk (t - 7) = x := ⟨_, rfl⟩
            rw [e15] at c15 l15 hnx
            rw [e2] at c2 l2 hnx
            rw [e16] at c16 l16 hnx
            rw [e7] at c7 l7 hnx
            obtain ⟨y, hy⟩ : ∃ y, wd blk t = y := ⟨_, rfl⟩
            rw [hy] at hnx hsn hwl hly
            obtain ⟨ws, hws2⟩ : ∃ ws, (List.range t).map (wd blk) = ws := ⟨_, rfl⟩
            rw [hws2] at hov hsn hlen hly hcw ⊢
            rw [hlen] at hcw ⊢
            have hov' : OwnN .u32 70 wr wo.heap.size (.slice (some ⟨gw, 0, none⟩) t cw) ws := by rw [← hlen]; exact hov
            have HSN := Lib.hid hsn
            have HOV := Lib.hid hov'
            have HWT := Lib.hid hWt
            have HLY := Lib.hid hly
            have HLEN := Lib.hid hlen
            have T7 : Hid (∀ w, Calls Try.prog 42 #[.int .u32 x15, .int .u32 7] w fun e w' => e = .returned (.int .u32 (rotr x15 7 : Nat)) ∧ w' = w) := Lib.hid fun w => right_c x15 7 w l15 (by omega) (by omega)
            have T18 : Hid (∀ w, Calls Try.prog 42 #[.int .u32 x15, .int .u32 18] w fun e w' => e = .returned (.int .u32 (rotr x15 18 : Nat)) ∧ w' = w) := Lib.hid fun w => right_c x15 18 w l15 (by omega) (by omega)
            have T17 : Hid (∀ w, Calls Try.prog 42 #[.int .u32 x2, .int .u32 17] w fun e w' => e = .returned (.int .u32 (rotr x2 17 : Nat)) ∧ w' = w) := Lib.hid fun w => right_c x2 17 w l2 (by omega) (by omega)
            have T19 : Hid (∀ w, Calls Try.prog 42 #[.int .u32 x2, .int .u32 19] w fun e w' => e = .returned (.int .u32 (rotr x2 19 : Nat)) ∧ w' = w) := Lib.hid fun w => right_c x2 19 w l2 (by omega) (by omega)
            have r7 := rotr_lt x15 7 l15
            have r18 := rotr_lt x15 18 l15
            have r17 := rotr_lt x2 17 l2
            have r19 := rotr_lt x2 19 l2
            have y1 := u32_xor_nat (rotr x15 7) (rotr x15 18) r7 r18
            have y1l : rotr x15 7 ^^^ rotr x15 18 < 4294967296 := Nat.xor_lt_two_pow (n := 32) r7 r18
            have y2 := u32_xor_nat (rotr x2 17) (rotr x2 19) r17 r19
            have y2l : rotr x2 17 ^^^ rotr x2 19 < 4294967296 := Nat.xor_lt_two_pow (n := 32) r17 r19
            have y3 : Go.bits .xor .u32 _ _ = ((sg0 x15 : Nat) : Int) := u32_xor_nat (rotr x15 7 ^^^ rotr x15 18) (x15 / 8) y1l (by omega)
            have y4 : Go.bits .xor .u32 _ _ = ((sg1 x2 : Nat) : Int) := u32_xor_nat (rotr x2 17 ^^^ rotr x2 19) (x2 / 1024) y2l (by omega)
            have l3 : sg0 x15 < 4294967296 := Nat.xor_lt_two_pow (n := 32) y1l (by omega)
            have l4 : sg1 x2 < 4294967296 := Nat.xor_lt_two_pow (n := 32) y2l (by omega)
            rw [show ((x15 / 8 : Nat) : Int) = (x15 : Int) / 8 by omega] at y3
            rw [show ((x2 / 1024 : Nat) : Int) = (x2 : Int) / 1024 by omega] at y4
            have HNX := Lib.hid hnx
            have p15 : (15 : Int) ≤ (t : Int) := by omega
            have p2 : (2 : Int) ≤ (t : Int) := by omega
            have q15 : (t : Int) - 15 < t := by omega
            have q2 : (t : Int) - 2 < t := by omega
            have n15 : (0 : Int) ≤ (t : Int) - 15 := by omega
            have n2 : (0 : Int) ≤ (t : Int) - 2 := by omega
            have w15 : IntKind.i64.wrap ((t : Int) - 15) = (t : Int) - 15 := IntWalk.i64_in _ (by omega)
            have w2 : IntKind.i64.wrap ((t : Int) - 2) = (t : Int) - 2 := IntWalk.i64_in _ (by omega)
            have t15 : ((t : Int) - 15).toNat = t - 15 := by omega
            have t2 : ((t : Int) - 2).toNat = t - 2 := by omega
            clear hy hsn hov hov' hWt hly hlen hws2 hrw gd e15 e2 e16 e7 hnx r7 r18 r17 r19 y1l y2l
            go_wp2_with fail
            go_quiet ((first | with_reducible exact Calls.quiet_of_same (T7.out _) | with_reducible exact Calls.quiet_of_same (T18.out _)))
            go_wp2_with fail
            obtain ⟨Wa, hWa⟩ : ∃ Wa, wr.drewN nq = Wa := ⟨_, rfl⟩
            have c2 : Wa.cell? ⟨gw, t - 2, none⟩ = some (.int .u32 (x2 : Nat)) := by rw [← hWa]; exact c2
            have c16 : Wa.cell? ⟨gw, t - 16, none⟩ = some (.int .u32 (x16 : Nat)) := by rw [← hWa]; exact c16
            have c7 : Wa.cell? ⟨gw, t - 7, none⟩ = some (.int .u32 (x7 : Nat)) := by rw [← hWa]; exact c7
            have HOVa := Lib.hid (show OwnN .u32 70 Wa wo.heap.size (.slice (some ⟨gw, 0, none⟩) t cw) ws by rw [← hWa]; exact HOV.out.move (fun _ _ => rfl))
            have HWTa := Lib.hid (show Below wo.heap.size wo Wa by rw [← hWa]; exact pw_below_drewN HWT.out nq)
            rw [hWa]
            clear hWa y1 y3
            go_quiet ((first | with_reducible exact Calls.quiet_of_same (T17.out _) | with_reducible exact Calls.quiet_of_same (T19.out _)))
            go_wp2_with fail
            obtain ⟨Wb, hWb⟩ : ∃ Wb, Wa.drewN nq = Wb := ⟨_, rfl⟩
            have c16 : Wb.cell? ⟨gw, t - 16, none⟩ = some (.int .u32 (x16 : Nat)) := by rw [← hWb]; exact c16
            have c7 : Wb.cell? ⟨gw, t - 7, none⟩ = some (.int .u32 (x7 : Nat)) := by rw [← hWb]; exact c7
            have hob : OwnN .u32 70 Wb wo.heap.size (.slice (some ⟨gw, 0, none⟩) t cw) ws := by rw [← hWb]; exact HOVa.out.move (fun _ _ => rfl)
            have hwb : Below wo.heap.size wo Wb := by rw [← hWb]; exact pw_below_drewN HWTa.out nq
            rw [hWb]
            clear hWb
            have hwbs : wo.heap.size ≤ Wb.heap.size := hwb.size
            have hgw2 : gw < Wb.heap.size := World.block_lt_of_cell? _ _ c16
            have hox : OwnN .u32 70 ((Wb.alloc (.cells #[.int .u32 (y : Nat)] 70)).drew) wo.heap.size (.slice (some ⟨gw, 0, none⟩) ws.length cw) ws := by
              rw [HLEN.out]
              exact (hob.kept ((Below.refl Wb.heap.size Wb).alloc (Nat.le_refl _) (.cells #[.int .u32 (y : Nat)] 70))).move (fun _ _ => rfl)
            have hlit : RN .u32 ((Wb.alloc (.cells #[.int .u32 (y : Nat)] 70)).drew) (some ⟨Wb.heap.size, 0, none⟩) [y] := (lit_reads .u32 70 Wb [y] (by simp)).move (fun _ _ => rfl)
            have hal : Below wo.heap.size wo ((Wb.alloc (.cells #[.int .u32 (y : Nat)] 70)).drew) := (hwb.alloc hwbs _).drew
            have hbs : wo.heap.size ≤ ((Wb.alloc (.cells #[.int .u32 (y : Nat)] 70)).drew).heap.size := by simp; omega
            have hkc : ∀ j v, Wb.cell? ⟨gw, j, none⟩ = some v → ((Wb.alloc (.cells #[.int .u32 (y : Nat)] 70)).drew).cell? ⟨gw, j, none⟩ = some v := fun j v hv => (cell_move (a := ⟨gw, j, none⟩) (heap_alloc_old Wb _ hgw2)).trans hv
            obtain ⟨z1, hz1⟩ : ∃ z1, (sg1 x2 + x7) % 4294967296 = z1 := ⟨_, rfl⟩
            obtain ⟨z2, hz2⟩ : ∃ z2, (z1 + sg0 x15) % 4294967296 = z2 := ⟨_, rfl⟩
            have hyv : (z2 + x16) % 4294967296 = y := by rw [HNX.out, ← hz2, ← hz1]; omega
            have a1 : IntKind.u32.wrap ((sg1 x2 : Nat) + (x7 : Int)) = (z1 : Int) := by rw [IntKind.wrap_u32']; omega
            have a2 : IntKind.u32.wrap ((z1 : Int) + (sg0 x15 : Nat)) = (z2 : Int) := by rw [IntKind.wrap_u32']; omega
            have a3 : IntKind.u32.wrap ((z2 : Int) + (x16 : Int)) = (y : Int) := by rw [IntKind.wrap_u32']; omega
            have HOX := Lib.hid hox
            have HLIT := Lib.hid hlit
            have HAL := Lib.hid hal
            have HKC := Lib.hid hkc
            have hlx := HLEN.out
            clear hox hlit hal hkc hz1 hz2 hyv hob hwb w15 w2 t15 t2 n15 n2 q15 q2 y2 y4 c2
            have p7 : (7 : Int) ≤ (t : Int) := by omega
            have p16 : (16 : Int) ≤ (t : Int) := by omega
            have q7 : (t : Int) - 7 < t := by omega
            have q16 : (t : Int) - 16 < t := by omega
            have n7 : (0 : Int) ≤ (t : Int) - 7 := by omega
            have n16 : (0 : Int) ≤ (t : Int) - 16 := by omega
            have l7' : t - 7 < ws.length := by rw [hlx]; omega
            have l16' : t - 16 < ws.length := by rw [hlx]; omega
            clear hlx
            have w7 : IntKind.i64.wrap ((t : Int) - 7) = (t : Int) - 7 := IntWalk.i64_in _ (by omega)
            have w16 : IntKind.i64.wrap ((t : Int) - 16) = (t : Int) - 16 := IntWalk.i64_in _ (by omega)
            have t7 : ((t : Int) - 7).toNat = t - 7 := by omega
            have t16 : ((t : Int) - 16).toNat = t - 16 := by omega
            go_region_held_law (fun w' => w'.cell? ⟨gw, t - 7, none⟩ = some (.int .u32 (x7 : Nat)) ∧ w'.cell? ⟨gw, t - 16, none⟩ = some (.int .u32 (x16 : Nat)))
              (first | exact ⟨K0, K1⟩ | exact ⟨c7, c16⟩ | exact ⟨HKC.out _ _ c7, HKC.out _ _ c16⟩ | go_keep)
              ((refine step_append_keep (W := (Wb.alloc (.cells #[.int .u32 (y : Nat)] 70)).drew) wo.heap.size (by rfl) (.tmp 114) (.tmp 130) 78 70 .u32 4 (by rfl) Try.underlying78 info_u32 (by decide) gw cw ws [y] (some ⟨Wb.heap.size, 0, none⟩) 1 (congrArg (fun n => Value.slice (some ⟨gw, 0, none⟩) n cw) HLEN.out.symm) (by rfl) HOX.out HLIT.out hbs HLY.out ?_; intro v1 w1' ho1 hg1 hk1; have hb2 := HAL.out.trans (below_grown HOX.out hbs hg1); have K0 := (hk1 (t - 7) l7').trans (HKC.out _ _ c7); have K1 := (hk1 (t - 16) l16').trans (HKC.out _ _ c16)))
            have HB2 := Lib.hid hb2
            have HO1 := Lib.hid ho1
            clear K0 K1 c7 c16 hb2 ho1 hg1 hk1 w7 w16 t7 t16
            go_wp2_with fail
            exact ⟨⟨t + 1, by omega, by go_num, by rw [HSN.out]; exact HO1.out, HB2.out⟩, by simp [intOf]; omega⟩
        · have hd : decide ((t : Int) < 64) = false := decide_eq_false (by omega)
          rw [show t = 64 by omega] at hov
          obtain ⟨gw, cw, e7, hgw, hgwl, hcw⟩ := hov.form0 (by simp)
          subst e7
          have hrw := hov.reads0
          have hl64 : ((List.range 64).map (wd blk)).length = 64 := by simp
          rw [hl64] at hcw ⊢
          obtain ⟨S, hS⟩ : ∃ S, mixes beginS ms j = S := ⟨_, rfl⟩
          have hSok : S.ok := by rw [← hS]; exact mixes_ok beginS_ok ms j
          have h1' : wr.heap[w.heap.size + 1]? = some (.cells S.val 70 (0, 0)) := by rw [← hS]; exact (hWt.block _ (by omega)).trans H1.out
          have h2' : wr.heap[w.heap.size + 2]? = some (.cells (tabA Kw) 70 (0, 0)) := (hWt.block _ (by omega)).trans H2.out
          have hrs : RN .u32 wr (some ⟨w.heap.size + 1, 0, none⟩) S.list := RN.ofCells (show wr.heap[w.heap.size + 1]? = some (.cells (tabA S.list) 70 (0, 0)) from h1') (by simp [St.list])
          have hrk : RN .u32 wr (some ⟨w.heap.size + 2, 0, none⟩) Kw := RN.ofCells h2' (by decide)
          obtain ⟨wp, rfl⟩ : ∃ wp : World, wp = wr := ⟨_, rfl⟩
          have hoe := empty_own .u32 70 wp
          have hbe : Below wp.heap.size wp (wp.alloc (.cells #[] 70)) := (Below.refl _ _).alloc (Nat.le_refl _) _
          have hbes : wp.heap.size ≤ (wp.alloc (.cells #[] 70)).heap.size := by simp
          have HRS := Lib.hid (show RN .u32 (wp.alloc (.cells #[] 70)) (some ⟨w.heap.size + 1, 0, none⟩) S.list from hrs.below hbe)
          have hl8 : (([] : List Nat).length + S.list.length) * 4 ≤ 140737488355328 := by simp [St.list]
          have HSS := Lib.hid hS
          have HSOK := Lib.hid hSok
          have H1' := Lib.hid h1'
          have HRK := Lib.hid hrk
          have HRW := Lib.hid hrw
          have HOE2 := Lib.hid hoe
          have HBE2 := Lib.hid hbe
          have HWT := Lib.hid hWt
          have HL8 := Lib.hid hl8
          have hsl : S.list.length = 8 := rfl
          have HSL := Lib.hid hsl
          clear hS hSok h1' h2' hrs hrk hrw hoe hbe hWt hl8 hsl hov hl64 hgwl
          go_wp2_with (at_builtin; refine append_NN wp.heap.size rfl (.tmp 132) (.tmp 133) 78 70 .u32 4 rfl Try.underlying78 info_u32 (by decide) (.slice (some ⟨wp.heap.size, 0, none⟩) 0 0) [] S.list (some ⟨w.heap.size + 1, 0, none⟩) 8 rfl rfl HOE2.out HRS.out hbes HL8.out ?_; intro v2 w2' ho2 hg2 hat2)
          rw [List.nil_append] at ho2
          obtain ⟨gv, cv, e8, hgv, hgvl, hcv⟩ := ho2.form0 (by rw [HSL.out]; omega)
          subst e8
          have hrv := ho2.reads0
          rw [HSL.out] at hcv ⊢
          have hbv : Below wp.heap.size wp w2' := HBE2.out.trans (below_grown HOE2.out hbes hg2)
          have HRV := Lib.hid hrv
          have HBV := Lib.hid hbv
          clear ho2 hg2 hat2 hrv hbv
          go_loopw [12, 13] (fun vv vt W => ∃ (t : Nat) (gv cv : Nat), t ≤ 64 ∧ vt = .int .i64 t ∧ vv = .slice (some ⟨gv, 0, none⟩) 8 cv ∧ 8 ≤ cv ∧ wp.heap.size ≤ gv ∧ RN .u32 W (some ⟨gv, 0, none⟩) (rnds S blk t).list ∧ Below wp.heap.size wp W) (fun _ vt _ => 64 - (intOf vt).toNat)
          case atStart => exact ⟨0, gv, cv, by omega, rfl, rfl, hcv, hgv, HRV.out, HBV.out⟩
          case round =>
            obtain ⟨t, gv, cv, ht, rfl, rfl, hcv, hgv2, hrv, hWv⟩ := hrel
            have hok := rnds_ok S blk HSOK.out t
            have hwps := HWT.out.size
            have hgmN : w.heap.size + 3 ≤ gm := by omega
            by_cases hlt : t < 64
            · have hd : decide ((t : Int) < 64) = true := decide_eq_true (by omega)
              have hnext : rnds S blk (t + 1) = rnd (rnds S blk t) (Kw.getD t 0) (wd blk t) := rfl
              obtain ⟨v, hv⟩ : ∃ v, rnds S blk t = v := ⟨_, rfl⟩
              rw [hv] at hrv hok hnext
              clear hv
              obtain ⟨va, vb, vc, vd, ve, vf, vg, vh⟩ := v
              obtain ⟨la, lb, lc, ld, le, lf, lg, lh⟩ := hok
              dsimp only at la lb lc ld le lf lg lh
              have hrw := HRW.out.below hWv
              have hrk := HRK.out.below hWv
              have kw := hrw.at0 t (by simp; omega)
              have kk := hrk.at0 t hlt
              have e1 : ((List.range 64).map (wd blk))[t]'(by simp; omega) = wd blk t := by simp
              rw [e1] at kw
              have hKK : wr.cell? ⟨w.heap.size + 2, t, none⟩ = some (.int .u32 (Kw.getD t 0 : Nat)) := by rw [List.getD_eq_getElem?_getD, List.getElem?_eq_getElem (show t < Kw.length from hlt)]; exact kk
              have lk : Kw.getD t 0 < 4294967296 := getD_lt (by omega) (by decide) t
              have lw := wd_lt hbb t
              obtain ⟨kt, hkt⟩ : ∃ x, Kw.getD t 0 = x := ⟨_, rfl⟩
              obtain ⟨wt, hwt⟩ : ∃ x, wd blk t = x := ⟨_, rfl⟩
              rw [hkt] at hKK lk hnext
              rw [hwt] at kw lw hnext
              have c0 : wr.cell? ⟨gv, 0, none⟩ = some (.int .u32 (va : Nat)) := hrv.at0 0 (by simp [St.list])
              have c1 : wr.cell? ⟨gv, 1, none⟩ = some (.int .u32 (vb : Nat)) := hrv.at0 1 (by simp [St.list])
              have c2 : wr.cell? ⟨gv, 2, none⟩ = some (.int .u32 (vc : Nat)) := hrv.at0 2 (by simp [St.list])
              have c3 : wr.cell? ⟨gv, 3, none⟩ = some (.int .u32 (vd : Nat)) := hrv.at0 3 (by simp [St.list])
              have c4 : wr.cell? ⟨gv, 4, none⟩ = some (.int .u32 (ve : Nat)) := hrv.at0 4 (by simp [St.list])
              have c5 : wr.cell? ⟨gv, 5, none⟩ = some (.int .u32 (vf : Nat)) := hrv.at0 5 (by simp [St.list])
              have c6 : wr.cell? ⟨gv, 6, none⟩ = some (.int .u32 (vg : Nat)) := hrv.at0 6 (by simp [St.list])
              have c7 : wr.cell? ⟨gv, 7, none⟩ = some (.int .u32 (vh : Nat)) := hrv.at0 7 (by simp [St.list])
              have T6 : Hid (∀ w, Calls Try.prog 42 #[.int .u32 ve, .int .u32 6] w fun e w' => e = .returned (.int .u32 (rotr ve 6 : Nat)) ∧ w' = w) := Lib.hid fun w => right_c ve 6 w le (by omega) (by omega)
              have T11 : Hid (∀ w, Calls Try.prog 42 #[.int .u32 ve, .int .u32 11] w fun e w' => e = .returned (.int .u32 (rotr ve 11 : Nat)) ∧ w' = w) := Lib.hid fun w => right_c ve 11 w le (by omega) (by omega)
              have T25 : Hid (∀ w, Calls Try.prog 42 #[.int .u32 ve, .int .u32 25] w fun e w' => e = .returned (.int .u32 (rotr ve 25 : Nat)) ∧ w' = w) := Lib.hid fun w => right_c ve 25 w le (by omega) (by omega)
              have T2_ : Hid (∀ w, Calls Try.prog 42 #[.int .u32 va, .int .u32 2] w fun e w' => e = .returned (.int .u32 (rotr va 2 : Nat)) ∧ w' = w) := Lib.hid fun w => right_c va 2 w la (by omega) (by omega)
              have T13 : Hid (∀ w, Calls Try.prog 42 #[.int .u32 va, .int .u32 13] w fun e w' => e = .returned (.int .u32 (rotr va 13 : Nat)) ∧ w' = w) := Lib.hid fun w => right_c va 13 w la (by omega) (by omega)
              have T22 : Hid (∀ w, Calls Try.prog 42 #[.int .u32 va, .int .u32 22] w fun e w' => e = .returned (.int .u32 (rotr va 22 : Nat)) ∧ w' = w) := Lib.hid fun w => right_c va 22 w la (by omega) (by omega)
              have r6 := rotr_lt ve 6 le
              have r11 := rotr_lt ve 11 le
              have r25 := rotr_lt ve 25 le
              have r2 := rotr_lt va 2 la
              have r13 := rotr_lt va 13 la
              have r22 := rotr_lt va 22 la
              have b1l : rotr ve 6 ^^^ rotr ve 11 < 4294967296 := Nat.xor_lt_two_pow (n := 32) r6 r11
              have b0l : rotr va 2 ^^^ rotr va 13 < 4294967296 := Nat.xor_lt_two_pow (n := 32) r2 r13
              have y1 := u32_xor_nat (rotr ve 6) (rotr ve 11) r6 r11
              have y2 : Go.bits .xor .u32 _ _ = ((big1 ve : Nat) : Int) := u32_xor_nat (rotr ve 6 ^^^ rotr ve 11) (rotr ve 25) b1l r25
              have y3 := u32_xor_nat (rotr va 2) (rotr va 13) r2 r13
              have y4 : Go.bits .xor .u32 _ _ = ((big0 va : Nat) : Int) := u32_xor_nat (rotr va 2 ^^^ rotr va 13) (rotr va 22) b0l r22
              have lb1 : big1 ve < 4294967296 := Nat.xor_lt_two_pow (n := 32) b1l r25
              have lb0 : big0 va < 4294967296 := Nat.xor_lt_two_pow (n := 32) b0l r22
              have nt := not32 ve le
              have ntl : 4294967295 - ve < 4294967296 := by omega
              have y5 := u32_and_nat ve vf le lf
              have y6 := u32_and_nat (4294967295 - ve) vg ntl lg
              have efl : ve &&& vf < 4294967296 := Nat.and_lt_two_pow (n := 32) _ lf
              have ngl : (4294967295 - ve) &&& vg < 4294967296 := Nat.and_lt_two_pow (n := 32) _ lg
              have y7 := u32_xor_nat (ve &&& vf) ((4294967295 - ve) &&& vg) efl ngl
              have lch : cho ve vf vg < 4294967296 := by rw [← cho_eq ve vf vg le lf lg]; exact Nat.xor_lt_two_pow (n := 32) efl ngl
              rw [cho_eq ve vf vg le lf lg] at y7
              have abl : va &&& vb < 4294967296 := Nat.and_lt_two_pow (n := 32) _ lb
              have acl : va &&& vc < 4294967296 := Nat.and_lt_two_pow (n := 32) _ lc
              have bcl : vb &&& vc < 4294967296 := Nat.and_lt_two_pow (n := 32) _ lc
              have y8 := u32_and_nat va vb la lb
              have y9 := u32_and_nat va vc la lc
              have y10 := u32_and_nat vb vc lb lc
              have abx : (va &&& vb) ^^^ (va &&& vc) < 4294967296 := Nat.xor_lt_two_pow (n := 32) abl acl
              have y11 := u32_xor_nat (va &&& vb) (va &&& vc) abl acl
              have y12 := u32_xor_nat ((va &&& vb) ^^^ (va &&& vc)) (vb &&& vc) abx bcl
              have lmj : maj va vb vc < 4294967296 := by rw [← maj_eq va vb vc]; exact Nat.xor_lt_two_pow (n := 32) abx bcl
              rw [maj_eq va vb vc] at y12
              have i0 : (0 : Int) ≤ (t : Int) := by omega
              have i1 : (t : Int) < 64 := by omega
              have HNX := Lib.hid hnext
              have HWV := Lib.hid hWv
              clear r6 r11 r25 r2 r13 r22 b1l b0l efl ngl abl acl bcl abx hnext hkt hwt kk hrw hrk hrv e1 hWv
              go_wp2_with fail
              go_quiet ((first | with_reducible exact Calls.quiet_of_same (T6.out _) | with_reducible exact Calls.quiet_of_same (T11.out _) | with_reducible exact Calls.quiet_of_same (T25.out _)))
              go_wp2_with fail
              have hX : ((vh : Int) + (big1 ve : Nat) + (cho ve vf vg : Nat) + kt + wt) % 4294967296 = (((vh + big1 ve + cho ve vf vg + kt + wt) % 4294967296 : Nat) : Int) := by omega
              have lX : (vh + big1 ve + cho ve vf vg + kt + wt) % 4294967296 < 4294967296 := Nat.mod_lt _ (by omega)
              rw [hX]
              obtain ⟨X, hXX⟩ : ∃ X, (vh + big1 ve + cho ve vf vg + kt + wt) % 4294967296 = X := ⟨_, rfl⟩
              rw [hXX] at lX ⊢
              have HXX := Lib.hid hXX
              obtain ⟨Wa, hWa⟩ : ∃ Wa, wr.drewN nq = Wa := ⟨_, rfl⟩
              have c0 : Wa.cell? ⟨gv, 0, none⟩ = some (.int .u32 (va : Nat)) := by rw [← hWa]; exact c0
              have c1 : Wa.cell? ⟨gv, 1, none⟩ = some (.int .u32 (vb : Nat)) := by rw [← hWa]; exact c1
              have c2 : Wa.cell? ⟨gv, 2, none⟩ = some (.int .u32 (vc : Nat)) := by rw [← hWa]; exact c2
              have c3 : Wa.cell? ⟨gv, 3, none⟩ = some (.int .u32 (vd : Nat)) := by rw [← hWa]; exact c3
              have c4 : Wa.cell? ⟨gv, 4, none⟩ = some (.int .u32 (ve : Nat)) := by rw [← hWa]; exact c4
              have c5 : Wa.cell? ⟨gv, 5, none⟩ = some (.int .u32 (vf : Nat)) := by rw [← hWa]; exact c5
              have c6 : Wa.cell? ⟨gv, 6, none⟩ = some (.int .u32 (vg : Nat)) := by rw [← hWa]; exact c6
              have c7 : Wa.cell? ⟨gv, 7, none⟩ = some (.int .u32 (vh : Nat)) := by rw [← hWa]; exact c7
              have HWVa := Lib.hid (show Below wp.heap.size wp Wa by rw [← hWa]; exact pw_below_drewN HWV.out nq)
              rw [hWa]
              clear hWa hX hXX y1 y2 nt y5 y6 y7 lb1 lch hKK kw
              go_quiet ((first | with_reducible exact Calls.quiet_of_same (T2_.out _) | with_reducible exact Calls.quiet_of_same (T13.out _) | with_reducible exact Calls.quiet_of_same (T22.out _)))
              go_wp2_with fail
              have hY : ((big0 va : Nat) + ((maj va vb vc : Nat) : Int)) % 4294967296 = (((big0 va + maj va vb vc) % 4294967296 : Nat) : Int) := by omega
              have lY : (big0 va + maj va vb vc) % 4294967296 < 4294967296 := Nat.mod_lt _ (by omega)
              rw [hY]
              obtain ⟨Y, hYY⟩ : ∃ Y, (big0 va + maj va vb vc) % 4294967296 = Y := ⟨_, rfl⟩
              rw [hYY] at lY ⊢
              have HYY := Lib.hid hYY
              obtain ⟨Wb, hWb⟩ : ∃ Wb, Wa.drewN nq = Wb := ⟨_, rfl⟩
              have c0 : Wb.cell? ⟨gv, 0, none⟩ = some (.int .u32 (va : Nat)) := by rw [← hWb]; exact c0
              have c1 : Wb.cell? ⟨gv, 1, none⟩ = some (.int .u32 (vb : Nat)) := by rw [← hWb]; exact c1
              have c2 : Wb.cell? ⟨gv, 2, none⟩ = some (.int .u32 (vc : Nat)) := by rw [← hWb]; exact c2
              have c3 : Wb.cell? ⟨gv, 3, none⟩ = some (.int .u32 (vd : Nat)) := by rw [← hWb]; exact c3
              have c4 : Wb.cell? ⟨gv, 4, none⟩ = some (.int .u32 (ve : Nat)) := by rw [← hWb]; exact c4
              have c5 : Wb.cell? ⟨gv, 5, none⟩ = some (.int .u32 (vf : Nat)) := by rw [← hWb]; exact c5
              have c6 : Wb.cell? ⟨gv, 6, none⟩ = some (.int .u32 (vg : Nat)) := by rw [← hWb]; exact c6
              have c7 : Wb.cell? ⟨gv, 7, none⟩ = some (.int .u32 (vh : Nat)) := by rw [← hWb]; exact c7
              have HWVb := Lib.hid (show Below wp.heap.size wp Wb by rw [← hWb]; exact pw_below_drewN HWVa.out nq)
              rw [hWb]
              clear hWb hY hYY y3 y4 y8 y9 y10 y11 y12 lb0 lmj
              refine wp_region_still_tail 26 (by kernel_rfl) (by kernel_rfl) ?_
              simp only [List.take_succ_cons, List.take_zero, List.drop_succ_cons, List.drop_zero]
              still_step
              still_step
              still_step
              still_step
              still_step
              still_step
              still_step
              still_step
              still_step
              still_step
              still_step
              still_step
              still_step
              still_step
              still_step
              still_step
              still_step
              still_step
              still_step
              still_step
              still_step
              still_step
              still_step
              still_step
              still_step
              still_step
              refine wpStill_nil ?_
              change wpList _ _ _ _ _ Wb.drew
              clear c0 c1 c2 c3 c4 c5 c6 c7
              go_wp2_with fail
              have hY2 : ((X : Int) + Y) % 4294967296 = (((X + Y) % 4294967296 : Nat) : Int) := by omega
              have hD2 : ((vd : Int) + X) % 4294967296 = (((vd + X) % 4294967296 : Nat) : Int) := by omega
              have hval : (#[.int .u32 (((X : Int) + Y) % 4294967296), .int .u32 (va : Nat), .int .u32 (vb : Nat), .int .u32 (vc : Nat), .int .u32 (((vd : Int) + X) % 4294967296), .int .u32 (ve : Nat), .int .u32 (vf : Nat), .int .u32 (vg : Nat)] : Array Value) = ((rnds S blk (t + 1)).list.map (encN .u32)).toArray := by
                rw [hY2, hD2, HNX.out]
                unfold rnd St.list
                simp only [HXX.out, HYY.out]
                rfl
              rw [hval]
              exact ⟨⟨t + 1, Wb.heap.size, 8, by omega, by go_num, rfl, by omega, HWVb.out.size, (lit_reads .u32 70 Wb (rnds S blk (t + 1)).list (by simp [St.list])).move (fun _ _ => rfl), (HWVb.out.alloc HWVb.out.size _).drew⟩, by simp [intOf]; omega⟩
            · as_aux_lemma =>
              have hd : decide ((t : Int) < 64) = false := decide_eq_false (by omega)
              have ht64 : t = 64 := by omega
              rw [ht64] at hrv hok
              have hmix : mixS S blk = addS S (rnds S blk 64) := rfl
              obtain ⟨V, hV⟩ : ∃ V, rnds S blk 64 = V := ⟨_, rfl⟩
              rw [hV] at hrv hok hmix
              clear hV
              have hsv : wr.heap[w.heap.size + 1]? = some (.cells (tabG S.at) 70 (0, 0)) := (hWv.block _ (by omega)).trans H1'.out
              have hadd : (addS S V).val = tabG (addA S V 8) := rfl
              have hsl := St.at_lt HSOK.out
              have hvl := St.at_lt hok
              have hvat : ∀ i (h : i < 8), V.list[i]'h = V.at i := fun i h => by
                rcases i with _ | _ | _ | _ | _ | _ | _ | _ | i
                all_goals first | rfl | omega
              have HRV := Lib.hid hrv
              have HSV := Lib.hid hsv
              have HWV := Lib.hid hWv
              have HMIX := Lib.hid hmix
              have HADD := Lib.hid hadd
              have HSL2 := Lib.hid hsl
              have HVL := Lib.hid hvl
              have HVAT := Lib.hid hvat
              have hne : w.heap.size + 1 ≠ gv := by omega
              have HNE := Lib.hid hne
              clear hrv hsv hWv hmix hadd hsl hvl hvat hok ht64 hne hcv
              obtain ⟨wq, rfl⟩ : ∃ wq : World, wq = wr := ⟨_, rfl⟩
              go_wp2_with fail
              go_loopw [18] (fun vi W => ∃ i : Nat, i ≤ 8 ∧ vi = .int .i64 i ∧ W.heap[w.heap.size + 1]? = some (.cells (tabG (addA S V i)) 70 (0, 0)) ∧ RN .u32 W (some ⟨gv, 0, none⟩) V.list ∧ ButB (w.heap.size + 1) wq.heap.size wq W) (fun vi _ => 8 - (intOf vi).toNat)
              case atStart => exact ⟨0, by omega, rfl, by rw [addA_zero]; exact HSV.out, HRV.out, ButB.refl _ _ _⟩
              case round =>
                obtain ⟨i, hi, rfl, hsi, hri, hbi⟩ := hrel
                by_cases hlt8 : i < 8
                · have hd : decide ((i : Int) < 8) = true := decide_eq_true (by omega)
                  have i0 : (0 : Int) ≤ (i : Int) := by omega
                  have i1 : (i : Int) < 8 := by omega
                  have cs := tabG_cell hsi i hlt8
                  have cf := tabG_free hsi i
                  rw [addA_at S V i] at cs
                  have cv' := hri.at0 i hlt8
                  rw [HVAT.out i hlt8] at cv'
                  have lx := HSL2.out i
                  have ly := HVL.out i
                  have hst := fun (W : World) (h : W.heap[w.heap.size + 1]? = some (.cells (tabG (addA S V i)) 70 (0, 0))) => tabG_store (x := (S.at i + V.at i) % 4294967296) h hlt8
                  rw [addA_step S V i] at hst
                  obtain ⟨x, hx⟩ : ∃ x, S.at i = x := ⟨_, rfl⟩
                  obtain ⟨y, hy⟩ : ∃ y, V.at i = y := ⟨_, rfl⟩
                  rw [hx, hy] at hst
                  rw [hx] at cs lx
                  rw [hy] at cv' ly
                  have HST := Lib.hid hst
                  have HSI := Lib.hid hsi
                  have HRI := Lib.hid hri
                  have HBI := Lib.hid hbi
                  clear hst hx hy hsi hri hbi
                  go_wp2_with fail
                  refine wp_region_still_tail 12 (by kernel_rfl) (by kernel_rfl) ?_
                  simp only [List.take_succ_cons, List.take_zero, List.drop_succ_cons, List.drop_zero]
                  still_step
                  still_step
                  still_step
                  still_step
                  still_step
                  still_step
                  still_step
                  still_step
                  still_step
                  still_step
                  still_step
                  still_step
                  refine wpStill_nil ?_
                  change wpList _ _ _ _ _ wr.drew
                  have hv : ((x : Int) + y) % 4294967296 = (((x + y) % 4294967296 : Nat) : Int) := by omega
                  have HV2 := Lib.hid hv
                  have h2 := HST.out wr HSI.out
                  have h7 : RN .u32 (wr.setCell ⟨w.heap.size + 1, i, none⟩ (.int .u32 ((x + y) % 4294967296 : Nat))) (some ⟨gv, 0, none⟩) V.list := HRI.out.move (fun a ha => by
                    injection ha with ha
                    subst ha
                    exact heap_setCell_other _ _ _ _ (Ne.symm HNE.out))
                  have h9 : ButB (w.heap.size + 1) wq.heap.size wq (wr.setCell ⟨w.heap.size + 1, i, none⟩ (.int .u32 ((x + y) % 4294967296 : Nat))) := HBI.out.setCell i _
                  have H2' := Lib.hid h2
                  have H7' := Lib.hid h7
                  have H9' := Lib.hid h9
                  clear hv h2 h7 h9 cv'
                  go_wp2_with fail
                  rw [HV2.out]
                  exact ⟨⟨i + 1, by omega, by go_num, H2'.out, H7'.out.move (fun _ _ => rfl), ⟨H9'.out.os, H9'.out.tape, H9'.out.output, H9'.out.size, H9'.out.block⟩⟩, by simp [intOf]; omega⟩
                · have hd : decide ((i : Int) < 8) = false := decide_eq_false (by omega)
                  rw [show i = 8 by omega, ← HADD.out, ← HMIX.out] at hsi
                  have hnx : mixes beginS ms (j + 1) = mixS S blk := by
                    rw [← HSS.out, ← HBK.out]; rfl
                  rw [← hnx] at hsi
                  have HSI := Lib.hid hsi
                  have hbw : Below w.heap.size w wr := by
                    have e1 := HW.out
                    have e2 := HWT.out
                    have e3 := HWV.out
                    have z1 := e2.size
                    have z2 := e3.size
                    exact ((e1.trans (e2.mono (by omega))).trans (e3.mono (by omega))).trans ((hbi.mono (show w.heap.size ≤ wq.heap.size by omega)).below (by omega))
                  have hblk : ∀ k, k < wo.heap.size → k ≠ w.heap.size + 1 → wr.heap[k]? = wo.heap[k]? := fun k hk hne => by
                    have z1 := HWT.out.size
                    have z2 := HWV.out.size
                    exact ((hbi.block k (by omega) hne).trans (HWV.out.block k (by omega))).trans (HWT.out.block k hk)
                  have h2 := (hblk (w.heap.size + 2) (by omega) (by omega)).trans H2.out
                  have h0 := (hblk w.heap.size (by omega) (by omega)).trans H0.out
                  have hrm : RN .u8 wr (some ⟨gm, 0, none⟩) ms := HRM.out.move (fun a ha => by
                    injection ha with ha
                    subst ha
                    exact hblk gm hgm2 (by omega))
                  have hsz2 : w.heap.size + 3 ≤ wr.heap.size := by
                    have z1 := HWT.out.size
                    have z2 := HWV.out.size
                    have z3 := hbi.size
                    omega
                  have HBW := Lib.hid hbw
                  have H2' := Lib.hid h2
                  have H0' := Lib.hid h0
                  have HRM' := Lib.hid hrm
                  have hx64 : (x0 : Int) + 64 = ((64 * (j + 1) : Nat) : Int) := by have := HX0.out; omega
                  have HX64 := Lib.hid hx64
                  clear hsi hbi hri hnx hbw hblk h2 h0 hrm hx64
                  go_wp2_with fail
                  rw [HX64.out]
                  refine ⟨⟨j + 1, by omega, rfl, HSI.out, H2'.out, HRM'.out, H0'.out, HBW.out, hsz2⟩, ?_⟩
                  have := HX0.out
                  simp [intOf]
                  omega
    · as_aux_lemma =>
      have hd : decide (((64 * j : Nat) : Int) < ms.length) = false := decide_eq_false (by rw [hml]; omega)
      have hjq : j = q := by omega
      obtain ⟨x0, hx0⟩ : ∃ x0, 64 * j = x0 := ⟨_, rfl⟩
      have hd : decide ((x0 : Int) < ms.length) = false := decide_eq_false (by rw [hml]; omega)
      have hdn : decide (x0 < ms.length) = false := decide_eq_false (by rw [hml]; omega)
      have h1 := H1.out
      rw [hjq] at h1
      obtain ⟨T, hT⟩ : ∃ T, mixes beginS ms q = T := ⟨_, rfl⟩
      have hTok : T.ok := by rw [← hT]; exact mixes_ok beginS_ok ms q
      have hsA := HSA.out
      rw [hT] at h1 hsA
      have hg1 : wr.heap[w.heap.size + 1]? = some (.cells (tabG T.at) 70 (0, 0)) := h1
      have hTl := St.at_lt hTok
      have HTL := Lib.hid hTl
      have HG1 := Lib.hid hg1
      have HSA2 := Lib.hid hsA
      rw [hx0]
      clear hml hjq hx0 h1 hT hTok hsA hg1 hTl
      have hbd : ∀ W : World, (Instr.build 36 #[]).run Try.prog W = .ok (.agg zeros32) W := fun _ => by kernel_rfl
      have hn9 : (wr.alloc (.cells zeros32 36)).heap[wr.heap.size]? = some (.cells zeros32 36 (0, 0)) := heap_alloc_new _ _
      obtain ⟨g, hg⟩ : ∃ g, wr.heap.size = g := ⟨_, rfl⟩
      obtain ⟨W9, hW9⟩ : ∃ W9, (wr.alloc (.cells zeros32 36)).setRow g zeros32 = W9 := ⟨_, rfl⟩
      have hs9 : W9.heap[g]? = some (.cells (tabK .u8 32 (fillB T 0)) 36 (0, 0)) := by rw [← hW9, ← fillB_zero, ← hg]; exact setRow_heap _ _ _ _ _ _ hn9
      have hb9 : Below wr.heap.size wr W9 := by rw [← hW9, ← hg]; exact below_setRow ((Below.refl _ _).alloc (Nat.le_refl _) _) (Nat.le_refl _) _
      have hi9 : (Try.prog.info? 36).map (·.size) = some zeros32.size := info32
      rw [hg] at hn9
      have HN9 := Lib.hid hn9
      have HW9 := Lib.hid hW9
      have HS9 := Lib.hid hs9
      have HI9 := Lib.hid hi9
      have hbw9 : Below w.heap.size w W9 := HW.out.trans (hb9.mono (by omega))
      have HBW9 := Lib.hid hbw9
      have H19 := Lib.hid ((hb9.block _ (by omega)).trans HG1.out)
      have H09 := Lib.hid ((hb9.block _ (by omega)).trans H0.out)
      have HGE := Lib.hid hg
      have hne1 : ¬ (w.heap.size + 1 = g) := by omega
      have hne2 : ¬ (g = w.heap.size + 1) := by omega
      have hne0 : ¬ (w.heap.size = g) := by omega
      have hlg : w.heap.size ≤ g := by omega
      clear hn9 hW9 hs9 hi9 hbw9 hb9 hg
      go_wp2_with (first | (rw [HGE.out]) | (rw [HW9.out]) | (refine wpList_store_row rfl 36 (.tmp 19) (.tmp 251) rfl g rfl zeros32 zeros32 rfl 36 HN9.out HI9.out rfl (tabK_one _ _ _) ?_))
      go_loopw [20] (fun vi W => ∃ i : Nat, i ≤ 8 ∧ vi = .int .i64 i ∧ W.heap[g]? = some (.cells (tabK .u8 32 (fillB T (4 * i))) 36 (0, 0)) ∧ W.heap[w.heap.size + 1]? = some (.cells (tabG T.at) 70 (0, 0)) ∧ W.heap[w.heap.size]? = some (.cells zeros32 36 (0, 0)) ∧ Below w.heap.size w W) (fun vi _ => 8 - (intOf vi).toNat)
      case atStart => exact ⟨0, by omega, rfl, HS9.out, H19.out, H09.out, HBW9.out⟩
      case round =>
        obtain ⟨i, hi, rfl, h9, h1, h0, hW⟩ := hrel
        by_cases hlt8 : i < 8
        · have hd : decide ((i : Int) < 8) = true := decide_eq_true (by omega)
          have i0 : (0 : Int) ≤ (i : Int) := by omega
          have i1 : (i : Int) < 8 := by omega
          have cs := tabG_cell h1 i hlt8
          have c0 := tabK_cell h9 (4 * i) (by omega)
          have c1 := tabK_cell h9 (4 * i + 1) (by omega)
          have c2 := tabK_cell h9 (4 * i + 2) (by omega)
          have c3 := tabK_cell h9 (4 * i + 3) (by omega)
          have f0 := tabK_free h9 (4 * i)
          have f1 := tabK_free h9 (4 * i + 1)
          have f2 := tabK_free h9 (4 * i + 2)
          have f3 := tabK_free h9 (4 * i + 3)
          have hx := HTL.out i
          have b0 : byteS T (4 * i) = T.at i / 16777216 % 256 := by unfold byteS; rw [show 4 * i / 4 = i by omega, show 4 * i % 4 = 0 by omega]
          have b1 : byteS T (4 * i + 1) = T.at i / 65536 % 256 := by unfold byteS; rw [show (4 * i + 1) / 4 = i by omega, show (4 * i + 1) % 4 = 1 by omega]
          have b2 : byteS T (4 * i + 2) = T.at i / 256 % 256 := by unfold byteS; rw [show (4 * i + 2) / 4 = i by omega, show (4 * i + 2) % 4 = 2 by omega]
          have b3 : byteS T (4 * i + 3) = T.at i % 256 := by unfold byteS; rw [show (4 * i + 3) / 4 = i by omega, show (4 * i + 3) % 4 = 3 by omega]; simp
          have s0 := tabK_store (x := byteS T (4 * i)) h9 (by omega : 4 * i < 32)
          rw [fillB_step] at s0
          have s1 := tabK_store (x := byteS T (4 * i + 1)) s0 (by omega : 4 * i + 1 < 32)
          rw [fillB_step] at s1
          have s2 := tabK_store (x := byteS T (4 * i + 2)) s1 (by omega : 4 * i + 2 < 32)
          rw [fillB_step] at s2
          have s3 := tabK_store (x := byteS T (4 * i + 3)) s2 (by omega : 4 * i + 3 < 32)
          rw [fillB_step] at s3
          obtain ⟨x, hxe⟩ : ∃ x, T.at i = x := ⟨_, rfl⟩
          rw [hxe] at cs hx b0 b1 b2 b3
          rw [b0, b1, b2, b3] at s3
          obtain ⟨u0, hu0⟩ : ∃ u : Nat, fillB T (4 * i) (4 * i) = u := ⟨_, rfl⟩
          obtain ⟨u1, hu1⟩ : ∃ u : Nat, fillB T (4 * i) (4 * i + 1) = u := ⟨_, rfl⟩
          obtain ⟨u2, hu2⟩ : ∃ u : Nat, fillB T (4 * i) (4 * i + 2) = u := ⟨_, rfl⟩
          obtain ⟨u3, hu3⟩ : ∃ u : Nat, fillB T (4 * i) (4 * i + 3) = u := ⟨_, rfl⟩
          rw [hu0] at c0
          rw [hu1] at c1
          rw [hu2] at c2
          rw [hu3] at c3
          have S3 := Lib.hid s3
          have H1 := Lib.hid h1
          have H0 := Lib.hid h0
          have HWW := Lib.hid hW
          clear s0 s1 s2 s3 b0 b1 b2 b3 hxe hu0 hu1 hu2 hu3 h9 h1 h0 hW
          go_wp2_with fail
          have v0 : (x : Int) / 16777216 = ((x / 16777216 % 256 : Nat) : Int) := by omega
          have v1 : (x : Int) / 65536 % 256 = ((x / 65536 % 256 : Nat) : Int) := by omega
          have v2 : (x : Int) / 256 % 256 = ((x / 256 % 256 : Nat) : Int) := by omega
          have v3 : (x : Int) % 256 = ((x % 256 : Nat) : Int) := by omega
          rw [v0, v1, v2, v3]
          refine ⟨⟨i + 1, by omega, by go_num, by rw [show 4 * (i + 1) = 4 * i + 3 + 1 by omega]; exact S3.out, ?_, ?_, (((HWW.out.setCell hlg _).setCell hlg _).setCell hlg _).setCell hlg _⟩, by simp [intOf]; omega⟩
          · rw [heap_setCell_other _ _ _ _ hne1, heap_setCell_other _ _ _ _ hne1, heap_setCell_other _ _ _ _ hne1, heap_setCell_other _ _ _ _ hne1]; exact H1.out
          · rw [heap_setCell_other _ _ _ _ hne0, heap_setCell_other _ _ _ _ hne0, heap_setCell_other _ _ _ _ hne0, heap_setCell_other _ _ _ _ hne0]; exact H0.out
        · have hd : decide ((i : Int) < 8) = false := decide_eq_false (by omega)
          rw [show 4 * i = 32 by omega, fillB_all, ← HSA2.out] at h9
          have hR := HSA2.out
          have ir : (Try.prog.info? 36).map (·.size) = some R.size := by rw [hR, tabK_size]; exact info32
          have or : R.all (·.oneCell') = true := by rw [hR]; exact tabK_one _ _ _
          have sr : zeros32.size = R.size := by rw [hR, tabK_size]; rfl
          have H9 := Lib.hid h9
          have H0 := Lib.hid h0
          have HIR := Lib.hid ir
          have HOR := Lib.hid or
          have HSR := Lib.hid sr
          clear h9 h0 ir or sr hR h1
          go_wp2_with (first | (refine wpList_store_row rfl 36 (.tmp 2) (.tmp 294) rfl w.heap.size rfl R zeros32 rfl 36 H0.out HIR.out HSR.out HOR.out ?_) | refine wpList_load_row rfl 36 (.tmp 19) rfl g rfl 36 _ (0, 0) _ H9.out Try.underlying36 rfl HIR.out ?_)
          (try simp only [Exit.inBlock, Exit.then])
          exact bodyPost_ret (v := .agg R) (results_cell_row rfl _ _ w.heap.size 36 R (0, 0) _ rfl (setRow_heap _ _ _ _ _ _ H0.out) Try.underlying36 rfl HIR.out) rfl ⟨by rw [HRR.out], below_setRow hW (Nat.le_refl _) _⟩
end Go.Proofs.Ytejmklfhcealnaa.F
