/- The document's map takes, claims, gives. -/
import Derived.Test.YtdfgaomlahpblaaEs
set_option linter.unusedVariables false
set_option linter.unusedSimpArgs false
namespace Go.Proofs.Ytdfgaomlahpblaa.F
open Go.RowKit Go.Proofs.YtdfgaomlahpblaaW.PrintWords

/-- What the document's Take answers, and what is left. -/
def takeR (f : Nat) (T : List Bool) (n : Int) : Int × Int × List Bool :=
  if n < 1 then (0, 2, T) else
  match (runsOf f T).findIdx? (fun r => decide (n ≤ (r.2 : Int))) with
  | none => (0, 8, T)
  | some i => (((((runsOf f T).getD i (0, 0)).1 : Nat) : Int), 0, setT T (((runsOf f T).getD i (0, 0)).1 - f) n.toNat true)
def TakeAnsR (b f : Nat) (x : Int × Int × List Bool) (w : World) (e : Ending) (w' : World) : Prop := e = .returned (.tuple #[.int .i64 x.1, .int .i64 x.2.1]) ∧ EY w' b f x.2.2 ∧ Gr (fun k => k = b) w w'
set_option maxRecDepth 20000 in
set_option maxHeartbeats 8000000 in
theorem Take_r (b f : Nat) (T : List Bool) (n : Int) (w : World) (hm : EY w b f T) (hT : T.length ≤ 10000) (hf : f ≤ 10000) :
    Calls Try.prog 37 #[.pointer (some ⟨b, 0, none⟩), .int .i64 n] w (TakeAnsR b f (takeR f T n) w) := by
  have hb := hm.lt
  by_cases h1 : n < 1
  · have d1 : decide (n < 1) = true := decide_eq_true h1
    have he : takeR f T n = (0, 2, T) := if_pos h1
    rw [he]
    have HM := Lib.hid hm
    clear hm he
    go_enter Try.func37, Try.ntmps37
    go_wp2_with fail
    go_ret2
    exact ⟨rfl, HM.out, Gr.refl _ _⟩
  · have d1 : decide (n < 1) = false := decide_eq_false h1
    have hrel := Rel.of f T
    have hbd := hrel.bd
    have hlen := hrel.len
    have hruns := Runs_r b f T w hm hT hf
    have htk : takeR f T n = match (runsOf f T).findIdx? (fun r => decide (n ≤ (r.2 : Int))) with
      | none => (0, 8, T)
      | some i => (((((runsOf f T).getD i (0, 0)).1 : Nat) : Int), 0, setT T (((runsOf f T).getD i (0, 0)).1 - f) n.toNat true) := if_neg h1
    obtain ⟨x, hx⟩ : ∃ x, takeR f T n = x := ⟨_, rfl⟩
    rw [hx] at htk ⊢
    obtain ⟨l, hl⟩ : ∃ l, runsOf f T = l := ⟨_, rfl⟩
    rw [hl] at hbd hlen hruns htk
    have HBD := Lib.hid hbd
    have HRUNS := Lib.hid hruns
    have HTK := Lib.hid htk
    have HM := Lib.hid hm
    have n0 : (l.length : Int) ≤ 10000 := by omega
    clear hrel hbd hruns htk hx hl hm
    go_enter Try.func37, Try.ntmps37
    go_wp2_with fail
    refine HRUNS.out.mono ?_
    rintro e w2 ⟨v2, rfl, ho2, hb2⟩
    obtain ⟨A2, c2, e2, _, hr2⟩ := ho2.reads
    subst e2
    have HNE := Lib.hid (show ∀ a, A2 = some a → a.block ≠ b ∧ a.block < w2.heap.size from fun a ha => by
      have h := ho2.typed a.block (by rw [ha]; rfl)
      exact ⟨by omega, h.2.1⟩)
    have HM2 := Lib.hid (HM.out.below hb2)
    have HR2 := Lib.hid hr2
    have HB2 := Lib.hid hb2
    have hs2 := hb2.size
    clear ho2 hb2 hr2
    go_wp2_with fail
    go_loop [7] (fun vi => ∃ i : Nat, i ≤ l.length ∧ vi = .int .i64 i ∧ ∀ j (h : j < l.length), j < i → ¬ n ≤ (l[j].2 : Int)) (fun vi => l.length - (intOf vi).toNat)
    case atStart => exact ⟨0, by omega, rfl, fun j _ h => by omega⟩
    case round =>
      obtain ⟨i, hi, rfl, hall⟩ := hrel
      have HALL := Lib.hid hall
      clear hall
      by_cases hlt : i < l.length
      · have hd : decide ((i : Int) < l.length) = true := decide_eq_true (by omega)
        obtain ⟨g, o, e, _, a1, a2⟩ := HR2.out.at i hlt
        subst e
        have i0 : (0 : Int) ≤ (i : Int) := by omega
        have i1 : (i : Int) < (l.length : Int) := by omega
        have hbi := HBD.out _ (List.getElem_mem hlt)
        have hnx : ¬ n ≤ (l[i].2 : Int) → ∀ j (h : j < l.length), j < i + 1 → ¬ n ≤ (l[j].2 : Int) := fun h j hj hji => by
          by_cases e : j = i
          · subst e; exact h
          · exact HALL.out j hj (by omega)
        have hhit : n ≤ (l[i].2 : Int) → x = (((l[i].1 : Nat) : Int), 0, setT T (l[i].1 - f) n.toNat true) := fun h => by
          rw [HTK.out, show l.findIdx? (fun r => decide (n ≤ (r.2 : Int))) = some i from List.findIdx?_eq_some_iff_getElem.2 ⟨hlt, by simpa using h, fun j hj => by have := HALL.out j (by omega) hj; simpa using this⟩]
          simp [List.getD_eq_getElem?_getD, hlt]
        obtain ⟨⟨x1, x2⟩, hxx⟩ : ∃ x, l[i] = x := ⟨_, rfl⟩
        rw [hxx] at a1 a2 hbi hnx hhit
        dsimp only at a1 a2 hbi hnx hhit
        clear hxx
        by_cases hn2 : n ≤ (x2 : Int)
        · have hd2 : decide (n ≤ (x2 : Int)) = true := decide_eq_true hn2
          obtain ⟨m, rfl⟩ : ∃ m : Nat, n = m := ⟨n.toNat, by omega⟩
          have hx := hhit hn2
          rw [show ((m : Int).toNat) = m from Int.toNat_natCast m] at hx
          subst hx
          have c0 := HM2.out.c0
          have hset := fun W (h : EY W b f T) => set_r b f T (x1 - f) m true W h hT (by omega) (by omega)
          have hcast : ((x1 - f : Nat) : Int) = (x1 : Int) - f := by omega
          simp only [hcast] at hset
          have HSET := Lib.hid hset
          have k1 : (f : Int) ≤ x1 := by omega
          have k2 : (x1 : Int) ≤ 20000 := by omega
          have wr1 : IntKind.i64.wrap ((x1 : Int) - f) = (x1 : Int) - f := by rw [IntKind.wrap_i64]; omega
          obtain ⟨hgb, hgs⟩ := HNE.out _ rfl
          have hkeep : ∀ W, Gr (fun k => k = b) w2 W → W.cell? ⟨g, o + i * 2, none⟩ = some (.int .i64 (x1 : Nat)) := fun W hg => (cell_move (a := ⟨g, o + i * 2, none⟩) (hg.block g hgs hgb)).trans a1
          have HK := Lib.hid hkeep
          clear hhit hnx hset hcast hkeep
          go_wp2_with fail
          go_still_tail 12, (by kernel_rfl)
          go_wp2_with fail
          refine (HSET.out w2.drew (HM2.out.move (fun _ _ _ _ _ _ => rfl))).mono ?_
          rintro e w3 ⟨rfl, hey3, hg3⟩
          replace hg3 : Gr (fun k => k = b) w2 w3 := ⟨hg3.os, hg3.tape, hg3.output, hg3.size, hg3.block⟩
          have a13 := HK.out w3 hg3
          have HEY3 := Lib.hid hey3
          have HG3 := Lib.hid ((Gr.of_below (fun k => k = b) HB2.out).trans hg3 (fun _ _ h => h))
          clear hey3 hg3 a1 a2
          go_wp2_with fail
          go_ret2
          exact ⟨rfl, HEY3.out, HG3.out⟩
        · have hd2 : decide (n ≤ (x2 : Int)) = false := decide_eq_false hn2
          have HNX := Lib.hid (hnx hn2)
          clear hhit hnx
          go_wp2_with fail
          go_round
          case rel => exact ⟨i + 1, by omega, by go_num, HNX.out⟩
          case measure => simp [intOf]; omega
      · have hd : decide ((i : Int) < l.length) = false := decide_eq_false (by omega)
        obtain rfl : i = l.length := by omega
        have hx : x = (0, 8, T) := by
          rw [HTK.out, show l.findIdx? (fun r => decide (n ≤ (r.2 : Int))) = none from List.findIdx?_eq_none_iff.2 (fun r hr => by
            obtain ⟨j, hj, rfl⟩ := List.getElem_of_mem hr
            have := HALL.out j hj hj
            simpa using this)]
        subst hx
        go_wp2_with fail
        go_ret2
        exact ⟨rfl, HM2.out, Gr.of_below _ HB2.out⟩
end Go.Proofs.Ytdfgaomlahpblaa.F
