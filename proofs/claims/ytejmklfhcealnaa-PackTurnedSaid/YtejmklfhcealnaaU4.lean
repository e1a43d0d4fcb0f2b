/- Four bytes that are changed are told: walked. -/
import Derived.Test.YtejmklfhcealnaaM4
import Derived.Laws.BitsAllLaws
set_option linter.unusedVariables false
set_option linter.unusedSimpArgs false
namespace Go.Proofs.Ytejmklfhcealnaa.F
open Go.RowKit Go.Proofs.YtejmklfhcealnaaW.PrintWords

/-- Is there a change among the first i? -/
def nz (bs : List Nat) (i : Nat) : Bool := (bs.take i).any (· != 0)
theorem nz_step (bs : List Nat) (i : Nat) (hb : i < bs.length) : nz bs (i + 1) = (nz bs i || (bs[i] != 0)) := by
  unfold nz
  rw [List.take_succ_eq_append_getElem hb, List.any_append]
  simp
theorem nz_iff (bs : List Nat) (i : Nat) : nz bs i = false ↔ ∀ x ∈ bs.take i, x = 0 := by
  unfold nz
  rw [List.any_eq_false]
  constructor
  · intro h x hx
    have := h x hx
    simpa using this
  · intro h x hx
    simp [h x hx]
/-- The changed bytes, parsed: told if there is a change. -/
theorem told (id : Nat) (L : List (List Nat)) (bs : List Nat) (k i : Nat) (hid : id < 4096) (hc : Chunks L) (hi : i ≤ 4) (hb : i ≤ bs.length) (hx : ∀ x ∈ bs, x < 256)
    (h : k + i ≤ 18 ∨ 128 + L.flatten.length ≤ k ∧ k + i ≤ 128 + L.flatten.length + 34 * L.length) : (((parseP (qAt (bytesN id L) bs k i)).1 != 0) == nz bs i) = true := by
  have ht := turned_bytes id L bs k i hid hc hi hb hx h
  by_cases e : (parseP (qAt (bytesN id L) bs k i)).1 = 0
  · rw [(nz_iff bs i).2 (ht.1 e), e]; rfl
  · have : nz bs i = true := by
      cases hn : nz bs i with
      | true => rfl
      | false => exact absurd (ht.2 ((nz_iff bs i).1 hn)) e
    rw [this, beq_iff_eq, bne_iff_ne]
    exact e

/-- The stretch that is changed. -/
def Stretch (F n f t : Nat) : Prop := f = 0 ∧ t = 18 ∨ f = 128 + F ∧ t = 128 + F + 34 * n

set_option maxRecDepth 20000 in
set_option maxHeartbeats 8000000 in
theorem PackTurned_walk (A : Option Addr) (c : Nat) (css : List (List Nat)) (tb : Bool) (at_ b0 b1 b2 b3 : Nat) (w : World) (hr : RR w A css) (hby : ∀ x ∈ css.flatten, x < 256) (hlen : ∀ x ∈ css, x.length ≤ 140737488351232) (ha : at_ < 65536) (h0 : b0 < 256) (h1 : b1 < 256) (h2 : b2 < 256) (h3 : b3 < 256) :
    Calls Try.prog 8 #[.slice A css.length c, .bool tb, .int .u16 at_, .agg #[.int .u8 b0, .int .u8 b1, .int .u8 b2, .int .u8 b3]] w fun e w' => e = .returned (.bool true) ∧ Below w.heap.size w w' := by
  obtain ⟨bs, hbs⟩ : ∃ bs, [b0, b1, b2, b3] = bs := ⟨_, rfl⟩
  have hbl : bs.length = 4 := by rw [← hbs]; rfl
  have hbb : ∀ x ∈ bs, x < 256 := by
    rw [← hbs]
    intro x hx
    simp only [List.mem_cons, List.not_mem_nil, or_false] at hx
    rcases hx with h | h | h | h <;> omega
  have hcsb : (#[.int .u8 (b0 : Int), .int .u8 (b1 : Int), .int .u8 (b2 : Int), .int .u8 (b3 : Int)] : Array Value) = tabK .u8 4 (fun i => bs.getD i 0) := by rw [← hbs]; rfl
  have hgB : (w.alloc (.cells #[.int .u8 (b0 : Int), .int .u8 (b1 : Int), .int .u8 (b2 : Int), .int .u8 (b3 : Int)] 59)).heap[w.heap.size]? = some (.cells (tabK .u8 4 (fun i => bs.getD i 0)) 59 (0, 0)) := by rw [← hcsb]; exact heap_alloc_new _ _
  have hbW0 : Below w.heap.size w (w.alloc (.cells #[.int .u8 (b0 : Int), .int .u8 (b1 : Int), .int .u8 (b2 : Int), .int .u8 (b3 : Int)] 59)) := (Below.refl _ _).alloc (Nat.le_refl _) _
  obtain ⟨W0, hW0⟩ : ∃ W0, w.alloc (.cells #[.int .u8 (b0 : Int), .int .u8 (b1 : Int), .int .u8 (b2 : Int), .int .u8 (b3 : Int)] 59) = W0 := ⟨_, rfl⟩
  rw [hW0] at hgB hbW0
  have hl0 : w.heap.size < W0.heap.size := (Array.getElem?_eq_some_iff.1 hgB).1
  have hmd := made_ok 3 64 A c css W0 (by decide) (by decide) (by decide) (hr.below hbW0) hby hlen
  have HMD : Hid (Calls Try.prog 10 #[.int .i64 3, .int .i64 64, .slice A css.length c] W0 fun e w' => ∃ bx bY L, e = .returned (.tuple #[.pointer (some ⟨bx, 0, none⟩), .pointer (some ⟨bY, 0, none⟩), .bool true]) ∧ MadeOk 3 64 W0 bx bY L w') := Lib.hid hmd
  have HGB := Lib.hid hgB
  have HW0 := Lib.hid hW0
  have HBW := Lib.hid hbW0
  have HBB := Lib.hid hbb
  clear hmd hr hby hlen hgB hW0 hbW0 hbb hcsb hbs
  go_enter Try.func8, Try.ntmps8
  go_wp2_with (rw [HW0.out])
  refine HMD.out.mono ?_
  rintro e w1 ⟨bx, bY, L, rfl, hm⟩
  obtain ⟨hbx, hbY, hpk, hpy, hch, hfit, hb1⟩ := hm
  have hbox1 := (hb1.block w.heap.size hl0).trans HGB.out
  have HBOX1 := Lib.hid hbox1
  have HPK := Lib.hid hpk
  have HPY := Lib.hid hpy
  have HCH := Lib.hid hch
  have HB1 := Lib.hid (HBW.out.trans (hb1.mono HBW.out.size))
  have hs1 := hb1.size
  clear hpk hpy hch hfit hb1 HMD hbox1 HGB HBW
  go_wp2_with fail
  refine (Bytes_c bx 3 64 L w1 HPK.out (by decide) HCH.out).mono ?_
  rintro e w2 ⟨v2, rfl, ho2, hb2⟩
  have hlen := bytesN_len 3 L
  obtain ⟨g, cap, rfl, hgb, hgl, hcap⟩ := ho2.form0 (by omega)
  have hbox2 := (hb2.block w.heap.size (by omega)).trans HBOX1.out
  have hpy2 := HPY.out.below hb2
  obtain ⟨Ay, cy, hyg, hyr, hyc⟩ := hpy2
  have y2 : w2.cell? ⟨bY, 2, none⟩ = some (.slice Ay L.length cy) := by rw [cell_of_row _ _ _ _ _ _ hyg]; rfl
  have HBT := Lib.hid (bytesN_lt 3 L HCH.out.flat.2)
  have HO2 := Lib.hid ho2
  have HB2 := Lib.hid (HB1.out.trans (hb2.mono (by omega)))
  have HBOX := Lib.hid hbox2
  have HYR := Lib.hid hyr
  have hl64 := HCH.out.1
  have hfl := HCH.out.flat.1
  have hs2 := hb2.size
  have hF : L.flatten.length = (L.take L.length).flatten.length := by rw [List.take_length]
  obtain ⟨F, hFe⟩ : ∃ F, L.flatten.length = F := ⟨_, rfl⟩
  have HFE := Lib.hid hFe
  rw [hFe] at hlen hfl
  obtain ⟨n, hne⟩ : ∃ n, L.length = n := ⟨_, rfl⟩
  obtain ⟨BL, hBL⟩ : ∃ BL, (bytesN 3 L).length = BL := ⟨_, rfl⟩
  have HBL := Lib.hid hBL
  have HNE := Lib.hid hne
  rw [hBL] at hlen hcap ⊢
  rw [hne] at hlen hl64 y2
  have hpad : padZ (128 + F + 34 * n) < 128 := by unfold padZ; omega
  have hbl1 : 128 + F + 34 * n ≤ BL := by omega
  have hbl2 : BL < 256 + F + 34 * n := by omega
  clear ho2 hb2 hbox2 hyg hyr HPK HPY HBOX1 HB1 hF hFe hBL hne hpad hlen
  go_wp2_with fail
  go_loop [13, 14] (fun vs vi => ∃ i a : Nat, i ≤ n ∧ vi = .int .i64 i ∧ vs = .int .i64 (a : Nat) ∧ a = (L.take i).flatten.length) (fun _ vi => n - (intOf vi).toNat)
  case atStart => exact ⟨0, 0, by omega, rfl, rfl, rfl⟩
  case round =>
    obtain ⟨i, a1, hi, rfl, rfl, ha1⟩ := hrel
    by_cases hlt : i < n
    · have d1 : decide ((i : Int) < (n : Int)) = true := decide_eq_true (by omega)
      have hiL : i < L.length := by rw [HNE.out]; exact hlt
      obtain ⟨g3, o3, e3, hc3⟩ := HYR.out.strAt i hiL
      subst e3
      have hsz := bstr_size L[i]
      have hft := flat_take L i hiL
      have hle := flat_take_le L (i + 1)
      rw [HFE.out] at hle
      obtain ⟨S, hS⟩ : ∃ S, bstr L[i] = S := ⟨_, rfl⟩
      rw [hS] at hc3 hsz
      obtain ⟨q, hq⟩ : ∃ q, L[i].length = q := ⟨_, rfl⟩
      rw [hq] at hft hsz
      rw [← ha1] at hft
      have HFT := Lib.hid hft
      have i0 : (0 : Int) ≤ (i : Int) := by omega
      have i1 : (i : Int) < (n : Int) := by omega
      have w1 : IntKind.i64.wrap ((a1 : Int) + q) = (a1 : Int) + q := by rw [IntKind.wrap_i64]; omega
      clear ha1 hS hq hft hle
      go_wp2_with fail
      exact ⟨⟨i + 1, a1 + q, by omega, by go_num, by go_num, HFT.out.symm⟩, by simp [intOf]; omega⟩
    · have d1 : decide ((i : Int) < (n : Int)) = false := decide_eq_false (by omega)
      have ha2 : a1 = F := by rw [ha1, List.take_of_length_le (by rw [HNE.out]; omega), HFE.out]
      obtain rfl : i = n := by omega
      have HNL := Lib.hid HNE.out
      subst ha2
      have w34 : IntKind.i64.wrap ((34 : Int) * i) = (34 : Int) * i := by rw [IntKind.wrap_i64]; omega
      have w35 : IntKind.i64.wrap ((128 : Int) + a1 + 34 * i) = (128 : Int) + a1 + 34 * i := by rw [IntKind.wrap_i64]; omega
      have w36 : IntKind.i64.wrap ((128 : Int) + a1) = (128 : Int) + a1 := by rw [IntKind.wrap_i64]; omega
      clear ha1 HNE HYR
      obtain ⟨Y, hY⟩ : ∃ Y, Y = w2 := ⟨_, rfl⟩
      subst hY
      go_upto_if 55 with (fail)
      go_cut [15, 16] from 56 to 65 (fun s15 s16 wx => ∃ f t : Nat, s15 = .int .i64 (f : Nat) ∧ s16 = .int .i64 (t : Nat) ∧ Stretch a1 i f t ∧ wx = Y)
      case first =>
        cases tb with
        | true =>
          go_wp2_with fail
          go_meet
          exact ⟨128 + a1, 128 + a1 + 34 * i, by go_num, by go_num, .inr ⟨rfl, rfl⟩, rfl⟩
        | false =>
          go_wp2_with fail
          go_meet
          exact ⟨0, 18, by go_num, by go_num, .inl ⟨rfl, rfl⟩, rfl⟩
      case rest =>
        obtain ⟨f, t, rfl, rfl, hst, rfl⟩ := hcut
        have HST := Lib.hid hst
        have ht1 : f ≤ t := by unfold Stretch at hst; omega
        have ht2 : t ≤ BL := by unfold Stretch at hst; omega
        have ht3 : BL < 100000 := by omega
        have d2 : decide ((BL : Int) < (t : Int)) = false := decide_eq_false (by omega)
        have d3 : decide ((t : Int) ≤ (BL : Int)) = true := decide_eq_true (by omega)
        clear hst w34 w35 w36 y2 d1
        by_cases hft : f = t
        · have e1 : ((f : Int) == (t : Int)) = true := by simp [hft]
          go_wp2_with fail
          refine (live_c _).mono ?_
          rintro e w6 ⟨rfl, hb6⟩
          have HB6 := Lib.hid (HB2.out.trans (hb6.mono HB2.out.size))
          clear hb6
          go_wp2_with fail
          go_ret
          exact ⟨rfl, HB6.out⟩
        · have e1 : ((f : Int) == (t : Int)) = false := beq_eq_false_iff_ne.2 (by omega)
          have htf : f < t := by omega
          have htd : (t : Int) - (f : Int) = ((t - f : Nat) : Int) := by omega
          have hk : ((at_ : Int) % ((t : Int) - (f : Int))) = ((at_ % (t - f) : Nat) : Int) := by rw [htd, Int.natCast_emod]
          have hkt : ((at_ : Int).tmod ((t : Int) - (f : Int))) = ((at_ % (t - f) : Nat) : Int) := by rw [Int.tmod_eq_emod_of_nonneg (by omega), hk]
          have hkl : at_ % (t - f) < t - f := Nat.mod_lt _ (by omega)
          have ne0 : ((t : Int) - (f : Int) == 0) = false := beq_eq_false_iff_ne.2 (by omega)
          have ne0' : (t : Int) - (f : Int) ≠ 0 := by omega
          obtain ⟨m, hm⟩ : ∃ m, at_ % (t - f) = m := ⟨_, rfl⟩
          rw [hm] at hk hkt hkl
          clear hm htd
          have wm : IntKind.i64.wrap (m : Int) = (m : Int) := by rw [IntKind.wrap_i64]; omega
          have wat : IntKind.i64.wrap (at_ : Int) = (at_ : Int) := by rw [IntKind.wrap_i64]; omega
          have wtf : IntKind.i64.wrap ((t : Int) - (f : Int)) = (t : Int) - (f : Int) := by rw [IntKind.wrap_i64]; omega
          have wfm : IntKind.i64.wrap ((f : Int) + (m : Int)) = (f : Int) + (m : Int) := by rw [IntKind.wrap_i64]; omega
          go_wp2_with fail
          obtain ⟨k, hk2⟩ : ∃ k, f + m = k := ⟨_, rfl⟩
          have hkI : (f : Int) + (m : Int) = (k : Int) := by omega
          rw [hkI]
          have hkt2 : k < t := by omega
          have hfk : f ≤ k := by omega
          obtain ⟨p, hp⟩ : ∃ p, bytesN 3 L = p := ⟨_, rfl⟩
          have hpl : p.length = BL := by rw [← hp]; exact HBL.out
          have HP := Lib.hid hp
          have HBp := Lib.hid (hp ▸ HBT.out)
          have hO := HO2.out
          rw [hp, hpl] at hO
          have hq0 := qAt_zero p bs k (by omega)
          have hO' : OwnN .u8 5 wc w1.heap.size (.slice (some ⟨g, 0, none⟩) BL cap) (qAt p bs k 0) := by rw [hq0]; exact hO
          have HO3 := Lib.hid hO'
          clear hk hkt hkl ne0 ne0' wm wat wtf wfm hkI hk2 hp hO hO' hq0 HO2 HBT HBL e1 hft hfl hl64 d2 d3
          go_loopw [18, 19] (fun vt vi W => ∃ i : Nat, i ≤ 4 ∧ k + i ≤ t ∧ vi = .int .i64 i ∧ vt = .bool (nz bs i) ∧ OwnN .u8 5 W w1.heap.size (.slice (some ⟨g, 0, none⟩) BL cap) (qAt p bs k i) ∧ W.heap[w.heap.size]? = some (.cells (tabK .u8 4 (fun i => bs.getD i 0)) 59 (0, 0)) ∧ Below w.heap.size w W) (fun _ vi _ => 4 - (intOf vi).toNat)
          case atStart => exact ⟨0, by omega, by omega, rfl, rfl, HO3.out, HBOX.out, HB2.out⟩
          case round =>
            obtain ⟨j, hj, hkj, rfl, rfl, ho, hB, hW⟩ := hrel
            have ki : ((k : Int) + j) ≤ 9223372036854775807 := by omega
            by_cases hlt2 : j < 4 ∧ k + j < t
            · obtain ⟨hl4, hlp⟩ := hlt2
              have d4 : decide ((j : Int) < 4) = true := decide_eq_true (by omega)
              have d5 : decide ((k : Int) + j < (t : Int)) = true := decide_eq_true (by omega)
              have hql := qAt_len p bs k j (by omega) (by omega)
              have hqa := qAt_at p bs k j (by omega) (by omega)
              have hqs := qAt_step p bs k j (by omega) (by omega)
              have hnz := nz_step bs j (by omega)
              have cb := tabK_cell hB j hl4
              have hbi : bs.getD j 0 = bs[j]'(by omega) := getD_in bs j (by omega)
              rw [hbi] at cb
              have hpx : p[k + j]'(by omega) < 256 := HBp.out _ (List.getElem_mem _)
              have hbx2 : bs[j]'(by omega) < 256 := HBB.out _ (List.getElem_mem _)
              have ho' : OwnN .u8 5 wr w1.heap.size (.slice (some ⟨g, 0, none⟩) (qAt p bs k j).length cap) (qAt p bs k j) := by rw [hql, hpl]; exact ho
              have cq := ho'.cellAt (k + j) (by omega)
              rw [hqa] at cq
              have fq := ho'.frozenAt (k + j)
              have hst := fun W' (hW' : OwnN .u8 5 W' w1.heap.size (.slice (some ⟨g, 0, none⟩) (qAt p bs k j).length cap) (qAt p bs k j)) => OwnN.stored hW' (k + j) (p[k + j]'(by omega) ^^^ bs[j]'(by omega))
              rw [hqs, hql] at hst
              obtain ⟨x, hx⟩ : ∃ x, p[k + j]'(by omega) = x := ⟨_, rfl⟩
              obtain ⟨y, hy⟩ : ∃ y, bs[j]'(by omega) = y := ⟨_, rfl⟩
              rw [hx] at cq hpx hst
              rw [hy] at cb hbx2 hst hnz
              rw [hpl] at hst
              have hxor := u8_xor_nat x y hpx hbx2
              have hxl : x ^^^ y < 256 := Nat.xor_lt_two_pow (n := 8) hpx hbx2
              obtain ⟨z, hz⟩ : ∃ z, x ^^^ y = z := ⟨_, rfl⟩
              rw [hz] at hxor hst hxl
              obtain ⟨t0, ht0⟩ : ∃ t0, nz bs j = t0 := ⟨_, rfl⟩
              rw [ht0] at hnz ⊢
              have HST2 := Lib.hid hst
              have HO' := Lib.hid ho
              have HBq := Lib.hid hB
              have HNZ := Lib.hid hnz
              have hbne : w.heap.size ≠ g := by omega
              have HNE := Lib.hid hbne
              clear hql hqa hqs hnz hbi ho' ho hst hx hy hz ht0 hB hbne
              have k0 : (0 : Int) ≤ (k : Int) + j := by omega
              have k1 : (k : Int) + j < (BL : Int) := by omega
              have i0 : (0 : Int) ≤ (j : Int) := by omega
              have i1 : (j : Int) < 4 := by omega
              clear hpl
              go_wp2_with fail
              have w1' : IntKind.i64.wrap ((k : Int) + j) = (k : Int) + j := IntWalk.i64_in _ (by omega)
              have n1 : ((k : Int) + j).toNat = k + j := by omega
              refine wp_region_still_tail 11 (by kernel_rfl) (by kernel_rfl) ?_
              simp only [List.take_succ_cons, List.take_zero, List.drop_succ_cons, List.drop_zero]
              still_step
              still_step
              still_step
              still_step
              still_step
              still_step
              still_step
              still_step
              still_step
              still_step
              still_step
              refine wpStill_nil ?_
              change wpList _ _ _ _ _ wr.drew
              clear w1' n1
              have hst2 := HST2.out wr HO'.out
              have hB3 : (wr.setCell ⟨g, k + j, none⟩ (.int .u8 (z : Nat))).heap[w.heap.size]? = some (.cells (tabK .u8 4 (fun i => bs.getD i 0)) 59 (0, 0)) := by rw [heap_setCell_other _ _ _ _ HNE.out]; exact HBq.out
              have cb3 : (wr.setCell ⟨g, k + j, none⟩ (.int .u8 (z : Nat))).cell? ⟨w.heap.size, j, none⟩ = some (.int .u8 (y : Nat)) := by
                refine (cell_move (a := ⟨w.heap.size, j, none⟩) ?_).trans cb
                rw [heap_setCell_other _ _ _ _ HNE.out]
              have HST3 := Lib.hid hst2
              have HB3 := Lib.hid hB3
              have fq' : wr.drew.frozen? ⟨g, k + j, none⟩ = false := fq
              have cq' : wr.drew.cell? ⟨g, k + j, none⟩ = some (.int .u8 (x : Nat)) := cq
              clear hst2 hB3 fq cq hxor cb
              have hgw : w.heap.size ≤ g := by omega
              cases t0 with
              | true =>
                clear cb3
                go_wp2_with fail
                exact ⟨⟨j + 1, by omega, by omega, by go_num, by rw [HNZ.out]; rfl, HST3.out.move (fun _ _ => rfl), HB3.out, (hW.setCell hgw _).drew⟩, by simp [intOf]; omega⟩
              | false =>
                by_cases hy0 : y = 0
                · have hb : ((y : Int) != 0) = false := by simp [hy0]
                  have HY0 := Lib.hid hy0
                  clear hy0
                  go_wp2_with fail
                  exact ⟨⟨j + 1, by omega, by omega, by go_num, by rw [HNZ.out, HY0.out]; rfl, HST3.out.move (fun _ _ => rfl), HB3.out, (hW.setCell hgw _).drew⟩, by simp [intOf]; omega⟩
                · have hb : ((y : Int) != 0) = true := by simp [hy0]
                  have hyn : (y != 0) = true := by simp [hy0]
                  have HY0 := Lib.hid hyn
                  clear hy0 hyn
                  go_wp2_with fail
                  exact ⟨⟨j + 1, by omega, by omega, by go_num, by rw [HNZ.out, HY0.out]; rfl, HST3.out.move (fun _ _ => rfl), HB3.out, (hW.setCell hgw _).drew⟩, by simp [intOf]; omega⟩
            · have htl := told 3 L bs k j (by decide) HCH.out hj (by omega) HBB.out (by have := HST.out; unfold Stretch at this; rw [HFE.out, HNL.out]; omega)
              rw [HP.out] at htl
              have hqb := qAt_lt p bs k j (by omega) (by omega) HBp.out HBB.out
              have hql := qAt_len p bs k j (by omega) (by omega)
              obtain ⟨qs, hqs⟩ : ∃ qs, qAt p bs k j = qs := ⟨_, rfl⟩
              obtain ⟨t0, ht0⟩ : ∃ t0, nz bs j = t0 := ⟨_, rfl⟩
              rw [hqs] at ho htl hqb hql
              rw [ht0] at htl ⊢
              rw [hpl] at hql
              have ho' : OwnN .u8 5 wr w1.heap.size (.slice (some ⟨g, 0, none⟩) qs.length cap) qs := by rw [hql]; exact ho
              obtain ⟨A5, c5, e5, _, _, _, hr5⟩ := ho'.form
              simp only [Value.slice.injEq] at e5
              have e5a : A5 = some ⟨g, 0, none⟩ := e5.1.symm
              clear e5
              have hr5' : RN .u8 wr (some ⟨g, 0, none⟩) qs := by rw [← e5a]; exact hr5
              have hpc := Parse_c (some ⟨g, 0, none⟩) cap qs wr hr5' (by rw [hql]; exact hcap) hqb
              rw [hql] at hpc
              obtain ⟨⟨E, id, sec, l⟩, hPP⟩ : ∃ r, parseP qs = r := ⟨_, rfl⟩
              rw [hPP] at hpc htl
              have HPC := Lib.hid hpc
              have HTL := Lib.hid htl
              have HWB := Lib.hid hW
              clear hpc htl hr5 hr5' hW ho ho' hB e5a hqs ht0 hqb hql hPP
              by_cases hl4 : j < 4
              · have d4 : decide ((j : Int) < 4) = true := decide_eq_true (by omega)
                have d5 : decide ((k : Int) + j < (t : Int)) = false := decide_eq_false (by omega)
                go_wp2_with fail
                refine HPC.out.mono ?_
                rintro e w6 ⟨v6, rfl, ⟨A6, c6, rfl, hr6⟩, hb6⟩
                have hb7 : Below w.heap.size w (w6.alloc (.cells #[.int .i64 (id : Nat), .int .i64 (sec : Nat), .slice A6 l.length c6] 53)) := (HWB.out.trans (hb6.mono HWB.out.size)).alloc (by have := HWB.out.size; have := hb6.size; omega) _
                have HB7 := Lib.hid hb7
                clear hb6 hr6 hb7
                go_wp2_with fail
                refine (live_c _).mono ?_
                rintro e w8 ⟨rfl, hb8⟩
                have HB8 := Lib.hid (HB7.out.trans (hb8.mono HB7.out.size))
                clear hb8
                obtain ⟨b1, hb1⟩ : ∃ b1, (E != 0) = b1 := ⟨_, rfl⟩
                have htl := HTL.out
                rw [hb1] at htl
                go_wp2_with fail
                go_ret
                exact ⟨by first | rw [hb1, htl] | rw [htl] | simp_all, HB8.out⟩
              · have d4 : decide ((j : Int) < 4) = false := decide_eq_false (by omega)
                go_wp2_with fail
                refine HPC.out.mono ?_
                rintro e w6 ⟨v6, rfl, ⟨A6, c6, rfl, hr6⟩, hb6⟩
                have hb7 : Below w.heap.size w (w6.alloc (.cells #[.int .i64 (id : Nat), .int .i64 (sec : Nat), .slice A6 l.length c6] 53)) := (HWB.out.trans (hb6.mono HWB.out.size)).alloc (by have := HWB.out.size; have := hb6.size; omega) _
                have HB7 := Lib.hid hb7
                clear hb6 hr6 hb7
                go_wp2_with fail
                refine (live_c _).mono ?_
                rintro e w8 ⟨rfl, hb8⟩
                have HB8 := Lib.hid (HB7.out.trans (hb8.mono HB7.out.size))
                clear hb8
                obtain ⟨b1, hb1⟩ : ∃ b1, (E != 0) = b1 := ⟨_, rfl⟩
                have htl := HTL.out
                rw [hb1] at htl
                go_wp2_with fail
                go_ret
                exact ⟨by first | rw [hb1, htl] | rw [htl] | simp_all, HB8.out⟩
end Go.Proofs.Ytejmklfhcealnaa.F
