/- The shards that are held, one by one; what is wrong with them. -/
import Derived.Test.YtdmfecaejdiihaaPr
import Derived.Test.YtdmfecaejdiihaaBr
import Derived.RangeFuncNested
import Derived.RangeFuncBound
import Derived.RangeFuncCalls
import Derived.RangeFuncLeaves
import Derived.RangeFuncBox
import Derived.Shelf.Abstract
import Derived.Shelf.RegionOpen
import Derived.WalkKit
import Derived.OwnWalkIn
import Derived.TacticsInMore
import Derived.LoopNIn
import Derived.LoopIn
set_option linter.unusedVariables false
set_option linter.unusedSimpArgs false
namespace Go.Proofs.Ytdmfecaejdiihaa.F
open Go.RowKit Go.Proofs.YtdmfecaejdiihaaW.PrintWords Go.Shelf
attribute [local go_sem] Oper.semAt_some

abbrev SD := Option Addr × Nat × Nat
abbrev HS := { x : Nat × SD // x.2.2.1 ≤ 4096 }
def sdv (x : SD) : Value := .slice x.1 x.2.1 x.2.2
/-- A slice of slices, by what its cells hold. -/
def SV (W : World) (A : Option Addr) (sv : List SD) : Prop :=
  sv.length ≤ 9223372036854775807 ∧ (0 < sv.length → ∃ ad, A = some ad ∧ ad.block < W.heap.size ∧ ∀ i (h : i < sv.length), W.cell? (ad.add i) = some (.slice sv[i].1 sv[i].2.1 sv[i].2.2))
/-- The j-th shard, if it is held. -/
def hsAt (sv : List SD) (h : ∀ x ∈ sv, x.2.1 ≤ 4096) (j : Nat) : Option HS :=
  if hj : j < sv.length then (if sv[j].1 = none then none else some ⟨(j, sv[j]), h _ (List.getElem_mem hj)⟩) else none
def hsUp (sv : List SD) (h : ∀ x ∈ sv, x.2.1 ≤ 4096) (k : Nat) : List HS := (List.range k).filterMap (hsAt sv h)
theorem hsUp_succ (sv : List SD) (h : ∀ x ∈ sv, x.2.1 ≤ 4096) (k : Nat) : hsUp sv h (k + 1) = hsUp sv h k ++ (hsAt sv h k).toList := by
  unfold hsUp
  rw [List.range_succ, List.filterMap_append]
  congr 1
theorem hsUp_len (sv : List SD) (h : ∀ x ∈ sv, x.2.1 ≤ 4096) (k : Nat) : (hsUp sv h k).length ≤ k := by
  have := List.length_filterMap_le (hsAt sv h) (List.range k)
  simpa [hsUp] using this

set_option maxRecDepth 100000 in
set_option maxHeartbeats 4000000 in
theorem held1_in (F : Fence) (n : Nat) (h8 : F.fn 33) (hro : F.round = none) (hn : 1 ≤ n) (l Bs n₀ : Nat) (ad : Addr) (cap : Nat) (sv : List SD) (hsv : ∀ x ∈ sv, x.2.1 ≤ 4096) (hm : (sv.length : Int) ≤ 9223372036854775807) (hb : ad.block < n₀) (J Jx : List HS → World → Prop)
    (hY : ∀ pre (x : HS) W, J pre W → pre.length < sv.length → YieldAt F (n - 1) Try.prog l #[.int .i64 (x.1.1 : Int), .slice x.1.2.1 x.1.2.2.1 x.1.2.2.2] W fun e W' =>
      (e = .returned (.bool true) ∧ J (pre ++ [x]) W' ∧ Below n₀ W W') ∨ (e = .returned (.bool false) ∧ Jx (pre ++ [x]) W'))
    (W : World) (hBs : W.cell? ⟨Bs, 0, none⟩ = some (.slice (some ad) sv.length cap)) (hc : ∀ j (h : j < sv.length), W.cell? (ad.add j) = some (.slice sv[j].1 sv[j].2.1 sv[j].2.2)) (h0 : J [] W) :
    CallsIn F n Try.prog 33 #[.func (.yield l) #[] #[], .pointer (some ⟨Bs, 0, none⟩)] W fun e W' => (∃ v, e = .returned v) ∧
      ((∃ ys, ys = hsUp sv hsv sv.length ∧ J ys W') ∨ (∃ pre, (∃ k, k ≤ sv.length ∧ pre = hsUp sv hsv k) ∧ Jx pre W')) := by
  refine callsIn_of_wp Try.func33 rfl h8 ?_ hro
  simp only [Try.ntmps33, List.size_toArray, List.length_cons, List.length_nil, Nat.reduceAdd, Nat.reduceSub, Array.replicate_succ, Array.replicate_zero, List.push_toArray, List.append_toArray, List.nil_append, List.cons_append]
  have qN : ∀ (w : World) (a : Option Addr) (n c : Nat), Sem.run Try.prog (binOp BinOp.neq 29 (.slice a n c) (.slice none 0 0)) w = Result.ok (.bool !a.isNone) w := fun w a n c => Go.run_neq_slice_nil_any w 29 5 a n c 0 0 Try.underlying29
  gi_wp2
  gi_loopw [7] (fun i wr => ∃ k : Nat, k ≤ sv.length ∧ i = .int .i64 k ∧ J (hsUp sv hsv k) wr ∧ Below n₀ W wr)
    (fun i _ => sv.length - (intOf i).toNat)
  case atStart => exact ⟨0, Nat.zero_le _, rfl, h0, Below.refl _ _⟩
  case round =>
    obtain ⟨k, hk, rfl, hJs, hnx⟩ := hrel
    by_cases hlt : k < sv.length
    · have hcx : wr.cell? (ad.add k) = some (.slice sv[k].1 sv[k].2.1 sv[k].2.2) := (hnx.cell (p := ad.add k) (by rw [add_blk]; exact hb)).trans (hc k hlt)
      have hat : hsAt sv hsv k = if sv[k].1 = none then none else some ⟨(k, sv[k]), hsv _ (List.getElem_mem hlt)⟩ := by unfold hsAt; rw [dif_pos hlt]
      have hup := hsUp_succ sv hsv k
      have hul := hsUp_len sv hsv k
      have hle := hsv _ (List.getElem_mem hlt)
      obtain ⟨x, hx⟩ : ∃ x, sv[k] = x := ⟨_, rfl⟩
      obtain ⟨xa, xn, xc⟩ := x
      simp only [hx] at hcx hat hle
      cases xa with
      | none =>
        rw [if_pos rfl] at hat
        rw [hat, Option.toList_none, List.append_nil] at hup
        have HUP := Lib.hid hup
        clear hup hat hx
        gi_wp2
        refine ⟨fun _ h => (by cases h), ?_⟩
        gi_wp2
        go_roundw
        case rel => exact ⟨k + 1, by omega, by simp, by rw [HUP.out]; exact hJs, hnx⟩
        case measure => simp [intOf]; omega
      | some xad =>
        rw [if_neg (by simp)] at hat
        have hat2 : hsAt sv hsv k = some ⟨(k, some xad, xn, xc), hle⟩ := hat
        rw [hat2, Option.toList_some] at hup
        obtain ⟨fn, tmps, assign, body, hy, hR⟩ := hY _ ⟨(k, some xad, xn, xc), hle⟩ wr hJs (by omega)
        dsimp only at hy
        have HUP := Lib.hid hup
        clear hup hat hat2 hx
        gi_wp2
        refine hR.mono ?_
        rintro e W3 (⟨rfl, hJ3, hk3⟩ | ⟨rfl, hJx3⟩)
        · gi_wp2
          go_roundw
          case rel => exact ⟨k + 1, by omega, by simp, by rw [HUP.out]; exact hJ3, hnx.trans hk3⟩
          case measure => simp [intOf]; omega
        · gi_wp2
          refine bodyPost_ret (results_none rfl _ _ _) rfl ?_
          exact ⟨⟨_, rfl⟩, .inr ⟨_, ⟨k + 1, by omega, HUP.out.symm⟩, hJx3⟩⟩
    · obtain rfl : k = sv.length := by omega
      gi_wp2
      go_end0
      exact ⟨⟨_, rfl⟩, .inl ⟨_, rfl, hJs⟩⟩

set_option maxRecDepth 100000 in
set_option maxHeartbeats 1000000 in
theorem held1_nil_in (F : Fence) (n : Nat) (h8 : F.fn 33) (hro : F.round = none) (l Bs : Nat) (A : Option Addr) (cap : Nat) (J : List HS → World → Prop) (W : World) (hBs : W.cell? ⟨Bs, 0, none⟩ = some (.slice A 0 cap)) (h0 : J [] W) :
    CallsIn F n Try.prog 33 #[.func (.yield l) #[] #[], .pointer (some ⟨Bs, 0, none⟩)] W fun e W' => (∃ v, e = .returned v) ∧ J [] W' := by
  refine callsIn_of_wp Try.func33 rfl h8 ?_ hro
  simp only [Try.ntmps33, List.size_toArray, List.length_cons, List.length_nil, Nat.reduceAdd, Nat.reduceSub, Array.replicate_succ, Array.replicate_zero, List.push_toArray, List.append_toArray, List.nil_append, List.cons_append]
  gi_wp2
  gi_loopw [7] (fun i wr => i = .int .i64 0 ∧ J [] wr) (fun _ _ => 0)
  case atStart => exact ⟨rfl, h0⟩
  case round =>
    obtain ⟨rfl, hJs⟩ := hrel
    gi_wp2
    go_end0
    exact ⟨⟨_, rfl⟩, hJs⟩
set_option maxHeartbeats 1000000 in
theorem held_in (F : Fence) (n : Nat) (h6 : F.fn 22) (hro : F.round = none) (a : Option Addr) (len cap : Nat) (w : World) :
    CallsIn F n Try.prog 22 #[.slice a len cap] w fun e w' => e = .returned (.func (.func 33) #[] #[.pointer (some ⟨w.heap.size, 0, none⟩)]) ∧ w' = w.alloc (.cells #[.slice a len cap] 22) := by
  refine callsIn_of_wp Try.func22 rfl h6 ?_ hro
  simp only [Try.ntmps22, List.size_toArray, List.length_cons, List.length_nil, Nat.reduceAdd, Nat.reduceSub, Array.replicate_succ, Array.replicate_zero, List.push_toArray, List.append_toArray, List.nil_append, List.cons_append]
  gi_wp2
  go_ret
  exact ⟨rfl, rfl⟩
theorem SV.below {W W' : World} {A : Option Addr} {sv : List SD} (h : SV W A sv) (hb : Below W.heap.size W W') : SV W' A sv := by
  refine ⟨h.1, fun hp => ?_⟩
  obtain ⟨ad, e, hlt, hc⟩ := h.2 hp
  exact ⟨ad, e, Nat.lt_of_lt_of_le hlt hb.size, fun i hi => (hb.cell (p := ad.add i) (by rw [add_blk]; exact hlt)).trans (hc i hi)⟩
theorem held_stops (F : Fence) (n : Nat) (h8 : F.fn 33) (hro : F.round = none) (hn : 1 ≤ n) (Bs n₀ : Nat) (A : Option Addr) (cap : Nat) (sv : List SD) (hsv : ∀ x ∈ sv, x.2.1 ≤ 4096) (w0 w : World) (hBs : Bs < w.heap.size) (hn₀ : n₀ = w0.heap.size) (hb0 : Below w0.heap.size w0 w)
    (hc : w.cell? ⟨Bs, 0, none⟩ = some (.slice A sv.length cap)) (hI : SV w0 A sv) :
    SeqStopsK F n Try.prog 33 #[.pointer (some ⟨Bs, 0, none⟩)] (fun x : HS => #[Value.int .i64 (x.1.1 : Int), .slice x.1.2.1 x.1.2.2.1 x.1.2.2.2]) (Below n₀) (fun ys => ys = hsUp sv hsv sv.length)
      (fun pre => ∃ k, k ≤ sv.length ∧ pre = hsUp sv hsv k) sv.length w := fun l J Jx W hW _ _ hY h0 => by
  have hc' := (hW.cell (p := ⟨Bs, 0, none⟩) hBs).trans hc
  have hm := hI.1
  cases sv with
  | nil => exact (held1_nil_in F n h8 hro l Bs A cap J W hc' h0).mono fun e W' ⟨he, hj⟩ => ⟨he, .inl ⟨_, rfl, hj⟩⟩
  | cons x sv =>
    obtain ⟨ad, rfl, hlt, hcs⟩ := hI.2 (by simp)
    have hb1 : Below w0.heap.size w0 W := hb0.trans (hW.mono (by have := hb0.size; omega))
    refine held1_in F n h8 hro hn l Bs n₀ ad cap (x :: sv) hsv (by omega) (by omega) J Jx hY W hc' (fun j hj => ?_) h0
    exact (hb1.cell (p := ad.add j) (by rw [add_blk]; exact hlt)).trans (hcs j hj)
end Go.Proofs.Ytdmfecaejdiihaa.F
