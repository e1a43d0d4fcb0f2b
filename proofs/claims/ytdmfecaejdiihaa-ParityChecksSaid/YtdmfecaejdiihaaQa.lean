/- The document's Repair, walked. -/
import Derived.Test.YtdmfecaejdiihaaPy
set_option linter.unusedVariables false
set_option linter.unusedSimpArgs false
namespace Go.Proofs.Ytdmfecaejdiihaa.F
open Go.RowKit Go.Proofs.YtdmfecaejdiihaaW.PrintWords

/-- The shards' bytes, held or not. -/
def Cs (W : World) (sv : List SD) (css : List (List Nat)) : Prop := ∀ i (h : i < sv.length), RN .u8 W sv[i].1 (css.getD i []) ∧ sv[i].2.1 = (css.getD i []).length ∧ (css.getD i []).length ≤ sv[i].2.2
theorem Cs.below {W W' : World} {sv : List SD} {css : List (List Nat)} (h : Cs W sv css) (hb : Below W.heap.size W W') : Cs W' sv css := fun i hi => ⟨(h i hi).1.below hb, (h i hi).2⟩
theorem sv_of_rr {W : World} {A : Option Addr} {css : List (List Nat)} (h : RR W A css) : ∃ sv : List SD, sv.length = css.length ∧ SV W A sv ∧ Cs W sv css := by
  have hx : ∀ i : Nat, ∃ x : SD, ∀ hi : i < css.length, ∀ ad, A = some ad → W.cell? (ad.add i) = some (.slice x.1 x.2.1 x.2.2) ∧ RN .u8 W x.1 css[i] ∧ x.2.1 = css[i].length ∧ css[i].length ≤ x.2.2 := fun i => by
    by_cases hi : i < css.length
    · obtain ⟨ad, A', c', e, h1, h2, h3⟩ := h.at i hi
      exact ⟨(A', css[i].length, c'), fun _ ad' e' => by
        rw [e] at e'; injection e' with e'; subst e'
        exact ⟨h1, h3, rfl, h2⟩⟩
    · exact ⟨(none, 0, 0), fun h => absurd h hi⟩
  obtain ⟨f, hf⟩ := Classical.axiomOfChoice hx
  have hl : ((List.range css.length).map f).length = css.length := by simp
  refine ⟨(List.range css.length).map f, hl, ⟨by rw [hl]; exact h.1, fun hp => ?_⟩, fun i hi => ?_⟩
  · rw [hl] at hp
    obtain ⟨ad, A', c', e, h1, h2, h3⟩ := h.at 0 hp
    refine ⟨ad, e, ?_, fun i hi => ?_⟩
    · have := World.block_lt_of_cell? _ _ h1
      rwa [add_blk] at this
    · rw [hl] at hi
      have := (hf i hi ad e).1
      simpa using this
  · rw [hl] at hi
    obtain ⟨ad, A', c', e, h1, h2, h3⟩ := h.at i hi
    obtain ⟨a1, a2, a3, a4⟩ := hf i hi ad e
    have e2 : ((List.range css.length).map f)[i]'(by rw [hl]; exact hi) = f i := by simp
    rw [e2, show css.getD i [] = css[i] by simp [List.getD_eq_getElem?_getD, hi]]
    exact ⟨a2, a3, a4⟩
theorem hidx_len_le (sv : List SD) (i n : Nat) (h : i ≤ n) : (hidx sv i).length ≤ (hidx sv n).length := by
  obtain ⟨r, hr⟩ := hidx_more sv i n h
  rw [hr, List.length_append]
  omega
theorem hidx_len (sv : List SD) (n : Nat) : (hidx sv n).length ≤ n := by
  have := List.length_filter_le (fun j => (sv.getD j (none, 0, 0)).1.isSome) (List.range n)
  rw [List.length_range] at this
  exact this
set_option maxHeartbeats 4000000 in
theorem rRepair_bad (A : Option Addr) (c : Nat) (sv : List SD) (k : Int) (w : World) (hmx : (sv.length : Int) ≤ 9223372036854775807) (h : k < 1 ∨ 32 < k ∨ (sv.length : Int) < k ∨ k + 16 < sv.length) :
    Calls Try.prog 13 #[.slice A sv.length c, .int .i64 k] w (EncAns [] 2 w) := by
  have hE : EncAns [] 2 w (.returned (.tuple #[.slice none 0 0, .int .i64 2])) w := ⟨none, 0, rfl, RR.nil _, Below.refl _ _⟩
  have HE := Lib.hid hE
  clear hE
  by_cases h1 : k < 1
  · have d1 : decide (k < 1) = true := decide_eq_true h1
    go_enter Try.func13, Try.ntmps13
    go_wp2_with fail
    go_ret2
    exact HE.out
  · have d1 : decide (k < 1) = false := decide_eq_false h1
    by_cases h2 : 32 < k
    · have d2 : decide (32 < k) = true := decide_eq_true h2
      go_enter Try.func13, Try.ntmps13
      go_wp2_with fail
      go_ret2
      exact HE.out
    · have d2 : decide (32 < k) = false := decide_eq_false h2
      by_cases h3 : (sv.length : Int) < k
      · have d3 : decide ((sv.length : Int) < k) = true := decide_eq_true h3
        go_enter Try.func13, Try.ntmps13
        go_wp2_with fail
        go_ret2
        exact HE.out
      · have d3 : decide ((sv.length : Int) < k) = false := decide_eq_false h3
        have d4 : decide (k + 16 < (sv.length : Int)) = true := decide_eq_true (by omega)
        have k0 : (-9223372036854775808 : Int) ≤ k + 16 := by omega
        have k1 : k + 16 ≤ (9223372036854775807 : Int) := by omega
        go_enter Try.func13, Try.ntmps13
        go_wp2_with fail
        go_ret2
        exact HE.out
/-- What a Repair answers. -/
def repOut (sv : List SD) (css : List (List Nat)) (k L : Nat) : List (List Nat) :=
  if wrongV (heldLens sv) = 0 ∧ k ≤ (hidx sv sv.length).length then grpR (((hidx sv sv.length).take k).map fun j => css.getD j []) ((hidx sv sv.length).take k) L sv.length else []
def repEr (sv : List SD) (k : Nat) : Int := if wrongV (heldLens sv) = 0 then (if k ≤ (hidx sv sv.length).length then 0 else 3) else wrongV (heldLens sv)
set_option maxRecDepth 20000 in
set_option maxHeartbeats 8000000 in
theorem rRepair_c (A : Option Addr) (c : Nat) (sv : List SD) (css : List (List Nat)) (k L : Nat) (w : World) (hI : SV w A sv) (hcs : Cs w sv css) (hk : 1 ≤ k) (hk2 : k ≤ 32) (hk3 : k ≤ sv.length) (hk4 : sv.length ≤ k + 16) (hsv : ∀ x ∈ sv, x.2.1 ≤ 4096)
    (hb : ∀ i, ∀ y ∈ css.getD i [], y < 256) (hL : wrongV (heldLens sv) = 0 → ∀ i (h : i < sv.length), sv[i].1.isSome = true → (css.getD i []).length = L) (hL2 : L ≤ 4096) :
    Calls Try.prog 13 #[.slice A sv.length c, .int .i64 k] w (EncAns (repOut sv css k L) (repEr sv k) w) := by
  have hmx : (sv.length : Int) ≤ 9223372036854775807 := by omega
  have qN : ∀ (w : World) (a : Option Addr) (n c : Nat), Sem.run Try.prog (binOp BinOp.neq 29 (.slice a n c) (.slice none 0 0)) w = Result.ok (.bool !a.isNone) w := fun w a n c => Go.run_neq_slice_nil_any w 29 5 a n c 0 0 Try.underlying29
  have d1 : decide ((k : Int) < 1) = false := decide_eq_false (by omega)
  have d2 : decide ((32 : Int) < k) = false := decide_eq_false (by omega)
  have d3 : decide ((sv.length : Int) < k) = false := decide_eq_false (by omega)
  obtain ⟨q, hq, hq1, hq2⟩ : ∃ q : Nat, (k : Int) + 16 = (q : Int) ∧ q ≤ 48 ∧ sv.length ≤ q := ⟨k + 16, by omega, by omega, by omega⟩
  have d4 : decide ((q : Int) < (sv.length : Int)) = false := decide_eq_false (by omega)
  have k0 : (0 : Int) ≤ (q : Int) := by omega
  have k1 : (q : Int) ≤ 48 := by omega
  obtain ⟨er, her⟩ : ∃ er, wrongV (heldLens sv) = er := ⟨_, rfl⟩
  have hwr := Wrong_r A c sv hsv w hI
  rw [her] at hwr hL
  have HWR := Lib.hid hwr
  have HER := Lib.hid her
  have HL := Lib.hid hL
  have HI := Lib.hid hI
  have HCS := Lib.hid hcs
  have HBB := Lib.hid hb
  clear hwr her hL hI hcs hb
  go_enter Try.func13, Try.ntmps13
  go_wp2_with fail
  refine HWR.out.mono ?_
  rintro e w1 ⟨rfl, hb1⟩
  have HB1 := Lib.hid hb1
  have HI1 := Lib.hid (HI.out.below hb1)
  have HCS1 := Lib.hid (HCS.out.below hb1)
  clear hb1 HWR HI HCS
  by_cases h0 : er = 0
  · subst h0
    go_wp2_with fail
    go_loopw [7, 8] (fun vt vi W => ∃ i : Nat, i ≤ sv.length ∧ vi = .int .i64 i ∧ vt = .int .i64 (hidx sv i).length ∧ Drawn0 w1 W) (fun _ vi _ => sv.length - (intOf vi).toNat)
    case atStart => exact ⟨0, by omega, rfl, rfl, Drawn0.refl _⟩
    case round =>
      obtain ⟨i, hi, rfl, rfl, hW⟩ := hrel
      have HW := Lib.hid hW
      have hli := hidx_len sv i
      have hsc := hidx_succ sv i
      clear hW
      by_cases hlt : i < sv.length
      · have hd : decide ((i : Int) < sv.length) = true := decide_eq_true (by omega)
        obtain ⟨ad, e, hadl, hcc⟩ := HI1.out.2 (by omega)
        subst e
        have hci0 := hcc i hlt
        have hgd : sv.getD i (none, 0, 0) = sv[i] := by simp [List.getD_eq_getElem?_getD, hlt]
        rw [hgd] at hsc
        obtain ⟨⟨xa, xn, xc⟩, hx⟩ : ∃ x, sv[i] = x := ⟨_, rfl⟩
        rw [hx] at hci0 hsc
        dsimp only at hci0 hsc
        have hci : wr.cell? (ad.add i) = some (.slice xa xn xc) := (HW.out.below.cell (p := ad.add i) (by rw [add_blk]; exact hadl)).trans hci0
        obtain ⟨t, ht⟩ : ∃ t, (hidx sv i).length = t := ⟨_, rfl⟩
        rw [ht] at hli ⊢
        have hsl := congrArg List.length hsc
        rw [List.length_append, ht] at hsl
        have i0 : (0 : Int) ≤ (i : Int) := by omega
        have i1 : (i : Int) < (sv.length : Int) := by omega
        have t0 : (0 : Int) ≤ (t : Int) := by omega
        have t1 : (t : Int) ≤ (i : Int) := by omega
        have HSL := Lib.hid hsl
        clear hcc hx hgd hci0 hsc ht hsl
        cases xa with
        | none =>
          go_wp2_with fail
          exact ⟨⟨i + 1, by omega, by go_num, by rw [HSL.out]; simp, HW.out⟩, by simp [intOf]; omega⟩
        | some xad =>
          go_wp2_with fail
          exact ⟨⟨i + 1, by omega, by go_num, by rw [HSL.out]; simp, HW.out⟩, by simp [intOf]; omega⟩
      · have hd : decide ((i : Int) < sv.length) = false := decide_eq_false (by omega)
        obtain rfl : i = sv.length := by omega
        obtain ⟨t, ht⟩ : ∃ t, (hidx sv sv.length).length = t := ⟨_, rfl⟩
        have HTT := Lib.hid ht
        rw [ht] at hli ⊢
        clear hsc ht
        have HI2 := Lib.hid (HI1.out.below HW.out.below)
        have HCS2 := Lib.hid (HCS1.out.below HW.out.below)
        have HB2 := Lib.hid (HB1.out.trans (HW.out.below.mono HB1.out.size))
        by_cases hkt : k ≤ t
        · have dk : decide ((t : Int) < k) = false := decide_eq_false (by omega)
          have hgr := rGroup_c A c sv css k sv.length L wr HI2.out HCS2.out hk (by omega) (by omega) (by omega) (by rw [HTT.out]; exact hkt) (HL.out (by first | rfl | trivial)) hL2 HBB.out
          have HGR := Lib.hid hgr
          clear hgr
          go_wp2_with fail
          refine HGR.out.mono ?_
          rintro e w3 ⟨v3, okc3, rfl, hs3, hb3⟩
          obtain ⟨X3, x3, rfl, hx3, rr3⟩ := hs3.reads
          have e1 : repOut sv css k L = grpR (((hidx sv sv.length).take k).map fun j => css.getD j []) ((hidx sv sv.length).take k) L sv.length := by unfold repOut; rw [if_pos ⟨HER.out, by rw [HTT.out]; exact hkt⟩]
          have e2 : repEr sv k = 0 := by unfold repEr; rw [HER.out, if_pos rfl, HTT.out, if_pos hkt]
          rw [← e1] at rr3 ⊢
          have R3 := Lib.hid rr3
          have HE1 := Lib.hid e1
          have HE2 := Lib.hid e2
          have HB3 := Lib.hid (HB2.out.trans (hb3.mono HB2.out.size))
          clear hs3 hb3 rr3 hx3 e1 e2
          go_wp2_with fail
          go_ret2
          rw [HE2.out]
          exact ⟨X3, x3, rfl, R3.out, HB3.out⟩
        · have dk : decide ((t : Int) < k) = true := decide_eq_true (by omega)
          have e1 : repOut sv css k L = [] := by unfold repOut; rw [if_neg (by rw [HTT.out]; exact fun h => hkt h.2)]
          have e2 : repEr sv k = 3 := by unfold repEr; rw [HER.out, if_pos rfl, HTT.out, if_neg hkt]
          have HE1 := Lib.hid e1
          have HE2 := Lib.hid e2
          clear e1 e2
          go_wp2_with fail
          go_ret2
          rw [HE1.out, HE2.out]
          exact ⟨none, 0, rfl, RR.nil _, HB2.out⟩
  · have hne : (er != 0) = true := by simp [h0]
    go_wp2_with fail
    go_ret2
    have e1 : repOut sv css k L = [] := by unfold repOut; rw [if_neg (by rw [HER.out]; exact fun h => h0 h.1)]
    have e2 : repEr sv k = er := by unfold repEr; rw [HER.out, if_neg h0]
    rw [e1, e2]
    exact ⟨none, 0, rfl, RR.nil _, HB1.out⟩
end Go.Proofs.Ytdmfecaejdiihaa.F
