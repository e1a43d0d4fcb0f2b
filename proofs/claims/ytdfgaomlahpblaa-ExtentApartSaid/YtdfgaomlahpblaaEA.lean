/- A script on both maps. -/
import Derived.Test.YtdfgaomlahpblaaEz
set_option linter.unusedVariables false
set_option linter.unusedSimpArgs false
namespace Go.Proofs.Ytdfgaomlahpblaa.F
open Go.RowKit Go.Proofs.YtdfgaomlahpblaaW.PrintWords

/-- A deed: what to do, and the run. -/
abbrev Dd := Int × Int × Int
/-- What a slice of deeds reads as. -/
def RD (W : World) (A : Option Addr) (ds : List Dd) : Prop :=
  ds.length ≤ 9223372036854775807 ∧ (0 < ds.length → ∃ ad, A = some ad ∧ ad.block < W.heap.size ∧ ∀ i (h : i < ds.length), W.cell? (ad.add (i * 3)) = some (.int .i64 ds[i].1) ∧ W.cell? ⟨(ad.add (i * 3)).block, (ad.add (i * 3)).off + 1, none⟩ = some (.int .i64 ds[i].2.1) ∧ W.cell? ⟨(ad.add (i * 3)).block, (ad.add (i * 3)).off + 2, none⟩ = some (.int .i64 ds[i].2.2)) ∧
    ∀ x ∈ ds, -9223372036854775808 ≤ x.2.1 ∧ x.2.1 ≤ 9223372036854775807
theorem RD.below {W W' : World} {A : Option Addr} {ds : List Dd} (h : RD W A ds) (hb : Below W.heap.size W W') : RD W' A ds := by
  refine ⟨h.1, fun hp => ?_, h.2.2⟩
  obtain ⟨ad, e, hl, hc⟩ := h.2.1 hp
  refine ⟨ad, e, Nat.lt_of_lt_of_le hl hb.size, fun i hi => ?_⟩
  obtain ⟨h1, h2, h3⟩ := hc i hi
  exact ⟨(hb.cell (by rw [add_blk]; exact hl)).trans h1, (hb.cell (by show (ad.add (i * 3)).block < _; rw [add_blk]; exact hl)).trans h2, (hb.cell (by show (ad.add (i * 3)).block < _; rw [add_blk]; exact hl)).trans h3⟩
/-- What a script answers. -/
def PlayAns (f len : Nat) (w : World) (e : Ending) (w' : World) : Prop :=
  ∃ bx byy T l, e = .returned (.tuple #[.pointer (some ⟨bx, 0, none⟩), .pointer (some ⟨byy, 0, none⟩), .bool true]) ∧ T.length = len ∧ XY w' w.heap.size bx byy f T l ∧ w.heap.size ≤ bx ∧ w.heap.size ≤ byy ∧ Below w.heap.size w w'
set_option maxRecDepth 20000 in
set_option maxHeartbeats 8000000 in
theorem play_c (m0 m1 : Nat) (A : Option Addr) (c : Nat) (ds : List Dd) (w : World) (h0 : m0 < 256) (h1 : m1 < 256) (hr : RD w A ds) :
    Calls Try.prog 15 #[.int .u8 m0, .int .u8 m1, .slice A ds.length c] w (PlayAns (m0 % 41) (m1 % 61) w) := by
  have hmx : (ds.length : Int) ≤ 9223372036854775807 := by have := hr.1; omega
  have hbo := bounds_c m0 m1 w h0 h1
  obtain ⟨f, hf⟩ : ∃ f, m0 % 41 = f := ⟨_, rfl⟩
  obtain ⟨n, hn⟩ : ∃ n, m1 % 61 = n := ⟨_, rfl⟩
  have hf2 : f ≤ 40 := by omega
  have hn2 : n ≤ 60 := by omega
  rw [hf, hn] at hbo ⊢
  have hnew := New_c f (f + n) w (by omega) (by omega)
  rw [show f + n - f = n by omega] at hnew
  have HBO := Lib.hid hbo
  have HNEW := Lib.hid hnew
  have HR := Lib.hid hr
  clear hbo hnew hf hn hr
  go_enter Try.func15, Try.ntmps15
  go_wp2_with fail
  refine HBO.out.mono ?_
  rintro e w1 ⟨rfl, rfl⟩
  go_wp2_with fail
  refine HNEW.out.mono ?_
  rintro e w2 ⟨bx, rfl, hbx, hem, hb2⟩
  have hnr := New_r f (f + n) w2 (by omega) (by omega)
  rw [show f + n - f = n by omega] at hnr
  have HNR := Lib.hid hnr
  have HEM := Lib.hid hem
  have HB2 := Lib.hid hb2
  have hs2 := hb2.size
  clear hem hb2 hnr
  go_wp2_with fail
  refine HNR.out.mono ?_
  rintro e w3 ⟨byy, rfl, hby, hey, hb3⟩
  have hxy : XY w3 w1.heap.size bx byy f (List.replicate n false) (if 0 < n then [(f, n)] else []) := by
    refine ⟨?_, hey, Rel.new f n, Nat.le_trans hs2 hb3.size⟩
    rw [List.length_replicate]
    exact HEM.out.below hb3
  have HXY := Lib.hid hxy
  have HB3 := Lib.hid (HB2.out.trans (hb3.mono hs2))
  have hby2 : w1.heap.size ≤ byy := by omega
  clear hxy hey hb3
  go_wp2_with fail
  go_loopw [15] (fun vi W => ∃ (i : Nat) (T : List Bool) (l : List Rn), i ≤ ds.length ∧ i ≤ 120 ∧ vi = .int .i64 i ∧ T.length = n ∧ XY W w1.heap.size bx byy f T l ∧ Below w1.heap.size w1 W) (fun vi _ => 120 - (intOf vi).toNat)
  case atStart => exact ⟨0, _, _, by omega, by omega, rfl, List.length_replicate, HXY.out, HB3.out⟩
  case round =>
    obtain ⟨i, T, l, hi, hi2, rfl, hT, hxy, hB⟩ := hrel
    have HXY2 := Lib.hid hxy
    have HB := Lib.hid hB
    have hsz := hB.size
    have HT := Lib.hid hT
    clear hxy hB hT
    by_cases hgo : i < ds.length ∧ i < 120
    · obtain ⟨hlt, hlt2⟩ := hgo
      have d1 : decide ((i : Int) < ds.length) = true := decide_eq_true (by omega)
      have d2 : decide ((i : Int) < 120) = true := decide_eq_true (by omega)
      obtain ⟨ad, e, hl, hcc⟩ := (HR.out.below HB.out).2.1 (by omega)
      subst e
      obtain ⟨a1, a2, a3⟩ := hcc i hlt
      have hbd := HR.out.2.2 _ (List.getElem_mem hlt)
      obtain ⟨⟨x1, x2, x3⟩, hx⟩ : ∃ x, ds[i] = x := ⟨_, rfl⟩
      rw [hx] at a1 a2 a3 hbd
      dsimp only at a1 a2 a3 hbd
      have i0 : (0 : Int) ≤ (i : Int) := by omega
      have i1 : (i : Int) < (ds.length : Int) := by omega
      have hdo := do_c w1.heap.size bx byy f T l x1 x2 x3 wr HXY2.out (by rw [HT.out]; omega) hbd
      have HDO := Lib.hid hdo
      clear hcc hx hdo
      go_wp2_with fail
      refine HDO.out.mono ?_
      rintro e w5 ⟨rfl, T5, l5, hT5, hxy5, hg5⟩
      have hb5 : Below w1.heap.size w1 w5 := HB.out.trans (hg5.below hsz (fun x hx => by rcases hx with hx | hx <;> omega))
      have HXY5 := Lib.hid hxy5
      have HT5 := Lib.hid (hT5.trans HT.out)
      have HB5 := Lib.hid hb5
      clear hT5 hxy5 hg5 hb5
      go_wp2_with fail
      exact ⟨⟨i + 1, T5, l5, by omega, by omega, by go_num, HT5.out, HXY5.out, HB5.out⟩, by simp [intOf]; omega⟩
    · have hal := alike_c w1.heap.size bx byy f T l wr HXY2.out (by rw [HT.out]; omega)
      have HAL := Lib.hid hal
      clear hal
      by_cases hlt : i < ds.length
      · have d1 : decide ((i : Int) < ds.length) = true := decide_eq_true (by omega)
        have d2 : decide ((i : Int) < 120) = false := decide_eq_false (by omega)
        clear hgo
        go_wp2_with fail
        refine HAL.out.mono ?_
        rintro e w5 ⟨rfl, hb5⟩
        have HXY5 := Lib.hid (HXY2.out.below hb5)
        have HB5 := Lib.hid (HB.out.trans (hb5.mono hsz))
        clear hb5
        go_wp2_with fail
        go_ret3
        exact ⟨bx, byy, T, l, rfl, HT.out, HXY5.out, hbx, hby2, HB5.out⟩
      · have d1 : decide ((i : Int) < ds.length) = false := decide_eq_false (by omega)
        clear hgo
        go_wp2_with fail
        refine HAL.out.mono ?_
        rintro e w5 ⟨rfl, hb5⟩
        have HXY5 := Lib.hid (HXY2.out.below hb5)
        have HB5 := Lib.hid (HB.out.trans (hb5.mono hsz))
        clear hb5
        go_wp2_with fail
        go_ret3
        exact ⟨bx, byy, T, l, rfl, HT.out, HXY5.out, hbx, hby2, HB5.out⟩
set_option maxHeartbeats 4000000 in
theorem ExtentPlays_walk (m0 m1 : Nat) (A : Option Addr) (c : Nat) (ds : List Dd) (w : World) (h0 : m0 < 256) (h1 : m1 < 256) (hr : RD w A ds) :
    Calls Try.prog 5 #[.int .u8 m0, .int .u8 m1, .slice A ds.length c] w fun e w' => e = .returned (.bool true) ∧ Below w.heap.size w w' := by
  have hp := play_c m0 m1 A c ds w h0 h1 hr
  have HP := Lib.hid hp
  clear hp hr
  go_enter Try.func5, Try.ntmps5
  go_wp2_with fail
  refine HP.out.mono ?_
  rintro e w1 ⟨bx, byy, T, l, rfl, _, _, _, _, hb⟩
  have HB := Lib.hid hb
  have hs := hb.size
  clear hb
  go_wp2_with fail
  refine (live_c _).mono ?_
  rintro e w2 ⟨rfl, hb2⟩
  have HB2 := Lib.hid (HB.out.trans (hb2.mono hs))
  clear hb2
  go_wp2_with fail
  go_ret
  exact ⟨rfl, HB2.out⟩
end Go.Proofs.Ytdfgaomlahpblaa.F
