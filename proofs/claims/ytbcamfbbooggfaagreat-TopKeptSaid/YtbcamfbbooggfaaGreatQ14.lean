/- Part 14 of the proof: TM1, TM5. -/
import Derived.Test.YtbcamfbbooggfaaGreatQ11
import Derived.Test.YtbcamfbbooggfaaGreatQ13
import Derived.Laws.BitsAllLaws
import Derived.Test.YtbcamfbbooggfaaGreatQ07
import Derived.Lib.Bytes
import Derived.Test.YtbcamfbbooggfaaGreatQ06
import Derived.Test.YtbcamfbbooggfaaGreatQ04
import Derived.Test.YtbcamfbbooggfaaGreatQ08
import Derived.Laws.IdiomStrings
import Derived.Deep.DrawnRows
import Derived.Lib.AppendStr
import Derived.Deep.RegionHeldLaw
import Derived.StillTailTactics
import Derived.Deep.AppendLies

section
/- Numbers read out of a head. -/
set_option linter.unusedVariables false
set_option linter.unusedSimpArgs false
namespace Go.Proofs.YtbcamfbbooggfaaGreat.F
open Go.RowKit Go.Proofs.YtbcamfbbooggfaaGreatW.PrintWords

/-- The number of k bytes at a place. -/
def hdV (bs : List Nat) (a k : Nat) : Nat := bigV ((bs.drop a).take k)
theorem hdV_lt (bs : List Nat) (a k : Nat) (h : a + k ≤ bs.length) (hb : ∀ x ∈ bs, x < 256) : hdV bs a k < 256 ^ k :=
  bigV_lt k _ (by rw [List.length_take, List.length_drop]; omega) (fun x hx => hb x (List.mem_of_mem_drop (List.mem_of_mem_take hx)))
theorem or_low (n x : Nat) (hx : x < 256) : n * 256 ||| x = n * 256 + x := by
  rw [show n * 256 = n <<< 8 by rw [Nat.shiftLeft_eq], Nat.shiftLeft_add_eq_or_of_lt (show x < 2 ^ 8 from hx)]
set_option maxHeartbeats 2000000 in
theorem TakeFixed_c (A : Option Addr) (c at' k : Nat) (p : List Nat) (w : World) (hr : RN .u8 w A p) (hcap : p.length ≤ c) (hp : ∀ x ∈ p, x < 256) (hk1 : 1 ≤ k) (hk4 : k ≤ 4) (hfit : at' + k ≤ p.length) :
    Calls Tryz.prog 65 #[.slice A p.length c, .int .i64 (at' : Nat), .int .i64 (k : Nat)] w fun e w' => e = .returned (.tuple #[.int .i64 (hdV p at' k : Nat), .int .i64 ((at' : Int) + k), .int .i64 0]) ∧ w' = w := by
  have hm := hr.max
  have d1 : decide ((k : Int) < 1) = false := decide_eq_false (by omega)
  have d2 : decide ((8 : Int) < k) = false := decide_eq_false (by omega)
  have d3 : decide ((at' : Int) < 0) = false := decide_eq_false (by omega)
  have d4 : decide ((p.length : Int) < (at' : Int)) = false := decide_eq_false (by omega)
  have d4' : decide (p.length < at') = false := decide_eq_false (by omega)
  have d5 : decide ((p.length : Int) - (at' : Int) < (k : Int)) = false := decide_eq_false (by omega)
  obtain ⟨i0, hi0, hs0⟩ := info_u8''
  obtain ⟨A', hx, hy⟩ := RN.mid (P := Tryz.prog) 25 5 .u8 Tryz.underlying25 hi0 hs0 A p.length c at' (at' + k) (by omega) hfit hcap
  rw [show at' + k - at' = k by omega] at hx hy
  rw [show (((at' + k : Nat)) : Int) = (at' : Int) + k by omega] at hx
  have hq := hy w p rfl hr
  have hql : ((p.drop at').take k).length = k := by rw [List.length_take, List.length_drop]; omega
  have hqb : ∀ x ∈ (p.drop at').take k, x < 256 := fun x hx => hp x (List.mem_of_mem_drop (List.mem_of_mem_take hx))
  have hv : hdV p at' k = bigV ((p.drop at').take k) := rfl
  have hvl := hdV_lt p at' k hfit hp
  obtain ⟨q, hqe⟩ : ∃ q, (p.drop at').take k = q := ⟨_, rfl⟩
  rw [hqe] at hq hql hqb hv
  obtain ⟨V, hV⟩ : ∃ V, hdV p at' k = V := ⟨_, rfl⟩
  rw [hV] at hv hvl ⊢
  have hv4 : V < 4294967296 := by
    have : (256 : Nat) ^ k ≤ 256 ^ 4 := Nat.pow_le_pow_right (by decide) hk4
    have : (256 : Nat) ^ 4 = 4294967296 := by decide
    omega
  have HQ := Lib.hid hq
  have HQB := Lib.hid hqb
  have HV := Lib.hid hv
  have HQL := Lib.hid hql
  have hadd : (at' : Int) + k ≤ (p.length : Int) := by omega
  have hkk : (k : Int) ≤ 4 := by omega
  have hwk : IntKind.i64.wrap ((at' : Int) + k) = (at' : Int) + k := by rw [IntKind.wrap_i64]; omega
  have j1 : (0 : Int) ≤ (at' : Int) := by omega
  have j2 : (at' : Int) ≤ (at' : Int) + k := by omega
  clear hr hp hy hq hqb hv hvl hqe hV hi0 hs0 hql
  go_enter Tryz.func65, Tryz.ntmps65
  go_wp2_with fail
  go_loop [9, 43] (fun vn vi => ∃ i n : Nat, i ≤ k ∧ vi = .int .i64 i ∧ vn = .int .u64 n ∧ n = bigV (q.take i)) (fun _ vi => k - (intOf vi).toNat)
  case atStart => exact ⟨0, 0, by omega, rfl, rfl, rfl⟩
  case round =>
    obtain ⟨i, n, hi, rfl, rfl, hn0⟩ := hrel
    have hlt0 := bigV_lt i (q.take i) (by rw [List.length_take, HQL.out]; omega) (fun x hx => HQB.out x (List.mem_of_mem_take hx))
    rw [← hn0] at hlt0
    have HN := Lib.hid hn0
    by_cases hlt : i < k
    · have d6 : decide ((i : Int) < (k : Int)) = true := decide_eq_true (by omega)
      have hpw : (256 : Nat) ^ i ≤ 256 ^ 3 := Nat.pow_le_pow_right (by decide) (by omega)
      have hn3 : n < 16777216 := Nat.lt_of_lt_of_le hlt0 (by simpa using hpw)
      have hj : i < q.length := by rw [HQL.out]; exact hlt
      obtain ⟨ad, e, hc⟩ := HQ.out.at i hj
      subst e
      have hxb := HQB.out _ (List.getElem_mem hj)
      have hstep : bigV (q.take (i + 1)) = n * 256 + q[i] := by
        rw [List.take_succ_eq_append_getElem hj, bigV_snoc, ← HN.out]
        omega
      obtain ⟨x, hxx⟩ : ∃ x, q[i] = x := ⟨_, rfl⟩
      rw [hxx] at hc hxb hstep
      have hor := u64_or_nat (n * 256) x (by omega) (by omega)
      rw [or_low n x hxb] at hor
      have hcst : ((n * 256 : Nat) : Int) = (n : Int) * 256 := by omega
      rw [hcst] at hor
      have HS := Lib.hid hstep
      have i0 : (0 : Int) ≤ (i : Int) := by omega
      have i1 : (i : Int) < (k : Int) := by omega
      clear hpw hlt0 hn0 hstep hxx hcst hj
      go_wp2_with fail
      exact ⟨⟨i + 1, n * 256 + x, by omega, by go_num, by first | go_num | (congr 1; omega), by rw [HS.out]⟩, by simp [intOf]; omega⟩
    · have d6 : decide ((i : Int) < (k : Int)) = false := decide_eq_false (by omega)
      obtain rfl : i = k := by omega
      have hnV : n = V := by rw [HN.out, HV.out, List.take_of_length_le (by rw [HQL.out]; exact Nat.le_refl _)]
      subst hnV
      have d7 : decide ((9007199254740991 : Int) < (n : Int)) = false := decide_eq_false (by omega)
      have d7' : decide (9007199254740991 < n) = false := decide_eq_false (by omega)
      clear hn0 hlt0
      go_wp2_with fail
      go_ret3
      exact ⟨rfl, rfl⟩
end Go.Proofs.YtbcamfbbooggfaaGreat.F

/- A head's numbers; is a head right? -/
set_option linter.unusedVariables false
set_option linter.unusedSimpArgs false
namespace Go.Proofs.YtbcamfbbooggfaaGreat.F
open Go.RowKit Go.Proofs.YtbcamfbbooggfaaGreatW.PrintWords

/-- The cells of four numbers. -/
def c4 (a b c d : Nat) : Array Value := #[.int .i64 (a : Nat), .int .i64 (b : Nat), .int .i64 (c : Nat), .int .i64 (d : Nat)]
def NumRel (bs : List Nat) (g : Nat) (W : World) (vi va : Value) : Prop :=
  (vi = .int .i64 0 ∧ va = .int .i64 4 ∧ W.heap[g]? = some (.cells (c4 0 0 0 0) 163 (0, 0))) ∨
  (vi = .int .i64 1 ∧ va = .int .i64 8 ∧ W.heap[g]? = some (.cells (c4 (hdV bs 4 4) 0 0 0) 163 (0, 0))) ∨
  (vi = .int .i64 2 ∧ va = .int .i64 10 ∧ W.heap[g]? = some (.cells (c4 (hdV bs 4 4) (hdV bs 8 2) 0 0) 163 (0, 0))) ∨
  (vi = .int .i64 3 ∧ va = .int .i64 14 ∧ W.heap[g]? = some (.cells (c4 (hdV bs 4 4) (hdV bs 8 2) (hdV bs 10 4) 0) 163 (0, 0))) ∨
  (vi = .int .i64 4 ∧ va = .int .i64 18 ∧ W.heap[g]? = some (.cells (c4 (hdV bs 4 4) (hdV bs 8 2) (hdV bs 10 4) (hdV bs 14 4)) 163 (0, 0)))
set_option maxRecDepth 20000 in
set_option maxHeartbeats 4000000 in
theorem numbers_c (A : Option Addr) (c : Nat) (bs : List Nat) (w : World) (hr : RN .u8 w A bs) (hcap : bs.length ≤ c) (hb : ∀ x ∈ bs, x < 256) (hl : 128 ≤ bs.length) :
    Calls Tryz.prog 64 #[.slice A bs.length c] w fun e w' => e = .returned (.agg (c4 (hdV bs 4 4) (hdV bs 8 2) (hdV bs 10 4) (hdV bs 14 4))) ∧ Below w.heap.size w w' := by
  have hm := hr.max
  have hbx : Below w.heap.size w (w.alloc (.cells (c4 0 0 0 0) 163)) := (Below.refl _ _).alloc (Nat.le_refl _) _
  have hgx : (w.alloc (.cells (c4 0 0 0 0) 163)).heap[w.heap.size]? = some (.cells (c4 0 0 0 0) 163 (0, 0)) := heap_alloc_new _ _
  have HR := Lib.hid hr
  have HB := Lib.hid hb
  have HBX := Lib.hid hbx
  have HGX := Lib.hid hgx
  have x0 : ∀ w, (Instr.index 163 (.agg #[.int .i64 4, .int .i64 2, .int .i64 4, .int .i64 4]) (.int .i64 0)).run Tryz.prog w = .ok (.int .i64 4) w := fun _ => by kernel_rfl
  have x1 : ∀ w, (Instr.index 163 (.agg #[.int .i64 4, .int .i64 2, .int .i64 4, .int .i64 4]) (.int .i64 1)).run Tryz.prog w = .ok (.int .i64 2) w := fun _ => by kernel_rfl
  have x2 : ∀ w, (Instr.index 163 (.agg #[.int .i64 4, .int .i64 2, .int .i64 4, .int .i64 4]) (.int .i64 2)).run Tryz.prog w = .ok (.int .i64 4) w := fun _ => by kernel_rfl
  have x3 : ∀ w, (Instr.index 163 (.agg #[.int .i64 4, .int .i64 2, .int .i64 4, .int .i64 4]) (.int .i64 3)).run Tryz.prog w = .ok (.int .i64 4) w := fun _ => by kernel_rfl
  clear hr hb hbx hgx
  go_enter Tryz.func64, Tryz.ntmps64
  go_wp2_with fail
  go_loopw [3, 7] (fun va vi W => NumRel bs w.heap.size W vi va ∧ Below w.heap.size w W) (fun _ vi _ => 4 - (intOf vi).toNat)
  case atStart => exact ⟨.inl ⟨rfl, rfl, HGX.out⟩, HBX.out⟩
  case round =>
    obtain ⟨hrel, hB⟩ := hrel
    have hs := hB.size
    have HBB := Lib.hid hB
    have HRR := Lib.hid (HR.out.below hB)
    clear hB
    rcases hrel with ⟨rfl, rfl, hg⟩ | ⟨rfl, rfl, hg⟩ | ⟨rfl, rfl, hg⟩ | ⟨rfl, rfl, hg⟩ | ⟨rfl, rfl, hg⟩
    · have ht := TakeFixed_c A c 4 4 bs wr HRR.out hcap HB.out (by decide) (by decide) (by omega)
      have hz := heap_setCell_same wr w.heap.size 0 _ _ (.int .i64 (hdV bs 4 4 : Nat)) hg
      have k0 : wr.cell? ⟨w.heap.size, 0, none⟩ = some (.int .i64 0) := by rw [cell_of_row _ _ _ _ _ _ hg]; rfl
      have f0 : wr.frozen? ⟨w.heap.size, 0, none⟩ = false := frozen_of_row _ _ _ _ _ hg
      obtain ⟨V, hV⟩ : ∃ V, hdV bs 4 4 = V := ⟨_, rfl⟩
      rw [hV] at ht hz
      have HT := Lib.hid ht
      have HZ := Lib.hid hz
      have HV := Lib.hid hV
      clear ht hz hV hg
      go_wp2_with fail
      refine HT.out.mono ?_
      rintro e w5 ⟨rfl, hwe⟩
      subst hwe
      go_wp2_with fail
      exact ⟨⟨.inr (.inl ⟨by first | rfl | go_num, by first | rfl | go_num, by rw [HV.out]; exact HZ.out⟩), HBB.out.setCell (Nat.le_refl _) _⟩, by simp [intOf]⟩
    · have ht := TakeFixed_c A c 8 2 bs wr HRR.out hcap HB.out (by decide) (by decide) (by omega)
      have hz := heap_setCell_same wr w.heap.size 1 _ _ (.int .i64 (hdV bs 8 2 : Nat)) hg
      have k0 : wr.cell? ⟨w.heap.size, 1, none⟩ = some (.int .i64 0) := by rw [cell_of_row _ _ _ _ _ _ hg]; rfl
      have f0 : wr.frozen? ⟨w.heap.size, 1, none⟩ = false := frozen_of_row _ _ _ _ _ hg
      obtain ⟨V, hV⟩ : ∃ V, hdV bs 8 2 = V := ⟨_, rfl⟩
      rw [hV] at ht hz
      have HT := Lib.hid ht
      have HZ := Lib.hid hz
      have HV := Lib.hid hV
      clear ht hz hV hg
      go_wp2_with fail
      refine HT.out.mono ?_
      rintro e w5 ⟨rfl, hwe⟩
      subst hwe
      go_wp2_with fail
      exact ⟨⟨.inr (.inr (.inl ⟨by first | rfl | go_num, by first | rfl | go_num, by rw [HV.out]; exact HZ.out⟩)), HBB.out.setCell (Nat.le_refl _) _⟩, by simp [intOf]⟩
    · have ht := TakeFixed_c A c 10 4 bs wr HRR.out hcap HB.out (by decide) (by decide) (by omega)
      have hz := heap_setCell_same wr w.heap.size 2 _ _ (.int .i64 (hdV bs 10 4 : Nat)) hg
      have k0 : wr.cell? ⟨w.heap.size, 2, none⟩ = some (.int .i64 0) := by rw [cell_of_row _ _ _ _ _ _ hg]; rfl
      have f0 : wr.frozen? ⟨w.heap.size, 2, none⟩ = false := frozen_of_row _ _ _ _ _ hg
      obtain ⟨V, hV⟩ : ∃ V, hdV bs 10 4 = V := ⟨_, rfl⟩
      rw [hV] at ht hz
      have HT := Lib.hid ht
      have HZ := Lib.hid hz
      have HV := Lib.hid hV
      clear ht hz hV hg
      go_wp2_with fail
      refine HT.out.mono ?_
      rintro e w5 ⟨rfl, hwe⟩
      subst hwe
      go_wp2_with fail
      exact ⟨⟨.inr (.inr (.inr (.inl ⟨by first | rfl | go_num, by first | rfl | go_num, by rw [HV.out]; exact HZ.out⟩))), HBB.out.setCell (Nat.le_refl _) _⟩, by simp [intOf]⟩
    · have ht := TakeFixed_c A c 14 4 bs wr HRR.out hcap HB.out (by decide) (by decide) (by omega)
      have hz := heap_setCell_same wr w.heap.size 3 _ _ (.int .i64 (hdV bs 14 4 : Nat)) hg
      have k0 : wr.cell? ⟨w.heap.size, 3, none⟩ = some (.int .i64 0) := by rw [cell_of_row _ _ _ _ _ _ hg]; rfl
      have f0 : wr.frozen? ⟨w.heap.size, 3, none⟩ = false := frozen_of_row _ _ _ _ _ hg
      obtain ⟨V, hV⟩ : ∃ V, hdV bs 14 4 = V := ⟨_, rfl⟩
      rw [hV] at ht hz
      have HT := Lib.hid ht
      have HZ := Lib.hid hz
      have HV := Lib.hid hV
      clear ht hz hV hg
      go_wp2_with fail
      refine HT.out.mono ?_
      rintro e w5 ⟨rfl, hwe⟩
      subst hwe
      go_wp2_with fail
      exact ⟨⟨.inr (.inr (.inr (.inr (⟨by first | rfl | go_num, by first | rfl | go_num, by rw [HV.out]; exact HZ.out⟩)))), HBB.out.setCell (Nat.le_refl _) _⟩, by simp [intOf]⟩
    · obtain ⟨C, hC⟩ : ∃ C, c4 (hdV bs 4 4) (hdV bs 8 2) (hdV bs 10 4) (hdV bs 14 4) = C := ⟨_, rfl⟩
      rw [hC] at hg
      have hinf : (Tryz.prog.info? 163).map (·.size) = some C.size := by rw [← hC]; kernel_rfl
      have hone : C.all (·.oneCell') = true := by rw [← hC]; simp [c4, Value.oneCell']
      have HG := Lib.hid hg
      have HI := Lib.hid hinf
      have HO := Lib.hid hone
      have HC := Lib.hid hC
      clear hg hinf hone hC
      go_wp2_with (first
        | (refine wpList_load_row rfl 163 (.tmp 2) rfl w.heap.size rfl 163 C (0, 0) _ HG.out Tryz.underlying163 (by rfl) HI.out ?_)
        | (refine wpList_store_row rfl 163 (.tmp 2) (.tmp 22) rfl w.heap.size rfl C C rfl 163 HG.out HI.out rfl HO.out ?_))
      (try simp only [Exit.inBlock, Exit.then])
      exact bodyPost_ret (v := .agg C) (results_cell_row rfl _ _ w.heap.size 163 C (0, 0) _ rfl (setRow_heap _ _ _ _ _ _ HG.out) Tryz.underlying163 rfl HI.out) rfl ⟨by rw [HC.out], below_setRow HBB.out (Nat.le_refl _) _⟩
end Go.Proofs.YtbcamfbbooggfaaGreat.F

/- A container's head, looked at. -/
set_option linter.unusedVariables false
set_option linter.unusedSimpArgs false
namespace Go.Proofs.YtbcamfbbooggfaaGreat.F
open Go.RowKit Go.Proofs.YtbcamfbbooggfaaGreatW.PrintWords

theorem headed1_c (x : Nat) (w : World) : Calls Tryz.prog 110 #[.int .u8 (x : Nat)] w fun e w' => e = .returned (.bool (decide (x ≠ 0))) ∧ w' = w := by
  have hd : ((x : Int) != 0) = decide (x ≠ 0) := by
    rw [Bool.eq_iff_iff]
    simp only [decide_eq_true_eq, bne_iff_ne]
    omega
  obtain ⟨b, hb⟩ : ∃ b, decide (x ≠ 0) = b := ⟨_, rfl⟩
  rw [hb] at hd ⊢
  go_enter Tryz.func110, Tryz.ntmps110
  go_wp2_with fail
  go_ret
  exact ⟨by first | rfl | rw [hd], rfl⟩
/-- The first byte that is not zero, or -1. -/
def idx8 (l : List Nat) : Int := match l.findIdx? (fun x => decide (x ≠ 0)) with
  | some i => (i : Nat)
  | none => -1
theorem idx8_hit (l : List Nat) (i : Nat) (h : i < l.length) (hp : decide (l[i] ≠ 0) = true) (hb : ∀ j (hj : j < l.length), j < i → decide (l[j] ≠ 0) = false) : idx8 l = (i : Nat) := by
  unfold idx8
  rw [show l.findIdx? (fun x => decide (x ≠ 0)) = some i from List.findIdx?_eq_some_iff_getElem.2 ⟨h, hp, fun j hj => by rw [hb j (by omega) hj]; simp⟩]
theorem idx8_miss (l : List Nat) (hb : ∀ j (hj : j < l.length), decide (l[j] ≠ 0) = false) : idx8 l = -1 := by
  unfold idx8
  rw [show l.findIdx? (fun x => decide (x ≠ 0)) = none from List.findIdx?_eq_none_iff.2 (fun x hx => by obtain ⟨j, hj, rfl⟩ := List.getElem_of_mem hx; exact hb j hj)]
theorem idx8_any (l : List Nat) : decide (0 ≤ idx8 l) = l.any (fun x => decide (x ≠ 0)) := by
  unfold idx8
  cases h : l.findIdx? (fun x => decide (x ≠ 0)) with
  | none =>
    have h2 := List.findIdx?_eq_none_iff.1 h
    rw [Bool.eq_iff_iff]
    simp only [decide_eq_true_eq, List.any_eq_true]
    exact ⟨fun h => by omega, fun ⟨x, hx, hn⟩ => by have := h2 x hx; simp only [decide_eq_false_iff_not] at this; exact absurd hn this⟩
  | some i =>
    obtain ⟨h1, h2, _⟩ := List.findIdx?_eq_some_iff_getElem.1 h
    rw [Bool.eq_iff_iff]
    simp only [decide_eq_true_eq, List.any_eq_true]
    exact ⟨fun _ => ⟨l[i], List.getElem_mem h1, by simpa using h2⟩, fun _ => by omega⟩
set_option maxRecDepth 20000 in
set_option maxHeartbeats 4000000 in
theorem IndexFunc8_c (A : Option Addr) (c : Nat) (l : List Nat) (w : World) (hr : RN .u8 w A l) :
    Calls Tryz.prog 146 #[.slice A l.length c, .func (.func 110) #[] #[]] w fun e w' => e = .returned (.int .i64 (idx8 l)) ∧ w' = w := by
  have hmx := hr.max
  have eg : ∀ args W, Sem.run Tryz.prog (callFunc 110 args) W = .ok (.enter 110 args) W := fun _ _ => by kernel_rfl
  obtain ⟨r, hrr⟩ : ∃ r, idx8 l = r := ⟨_, rfl⟩
  rw [hrr]
  have HRR := Lib.hid hrr
  have HR := Lib.hid hr
  clear hrr hr
  go_enter Tryz.func146, Tryz.ntmps146
  go_wp2_with fail
  go_loop [8] (fun vi => ∃ i : Nat, i ≤ l.length ∧ vi = .int .i64 i ∧ (∀ j (hj : j < l.length), j < i → decide (l[j] ≠ 0) = false)) (fun vi => l.length - (intOf vi).toNat)
  case atStart => exact ⟨0, by omega, rfl, fun j _ h => by omega⟩
  case round =>
    obtain ⟨i, hi, rfl, hall⟩ := hrel
    have HALL := Lib.hid hall
    clear hall
    by_cases hlt : i < l.length
    · have hd : decide ((i : Int) < l.length) = true := decide_eq_true (by omega)
      obtain ⟨ad, e, hc⟩ := HR.out.at i hlt
      subst e
      have i0 : (0 : Int) ≤ (i : Int) := by omega
      have i1 : (i : Int) < (l.length : Int) := by omega
      have hhit := fun h => idx8_hit l i hlt h (fun j hj hji => HALL.out j hj hji)
      have hnext : decide (l[i] ≠ 0) = false → ∀ j (hj : j < l.length), j < i + 1 → decide (l[j] ≠ 0) = false := fun h j hj hji => by
        by_cases e : j = i
        · subst e; exact h
        · exact HALL.out j hj (by omega)
      have hcall := headed1_c l[i] w
      obtain ⟨x, hx⟩ : ∃ x, l[i] = x := ⟨_, rfl⟩
      rw [hx] at hc hcall hhit hnext
      obtain ⟨b, hb⟩ : ∃ b, decide (x ≠ 0) = b := ⟨_, rfl⟩
      rw [hb] at hcall hhit hnext
      have HHIT := Lib.hid hhit
      have HNEXT := Lib.hid hnext
      have HCALL := Lib.hid hcall
      clear hx hb hhit hnext hcall
      go_wp2_with fail
      refine HCALL.out.mono ?_
      rintro e w2 ⟨rfl, hw2⟩
      subst hw2
      cases b with
      | true =>
        have hr2 : r = (i : Nat) := by rw [← HRR.out]; exact HHIT.out (by first | rfl | trivial)
        have HR2 := Lib.hid hr2
        clear hr2
        go_wp2_with fail
        go_ret
        rw [HR2.out]
        exact ⟨rfl, rfl⟩
      | false =>
        have hn := HNEXT.out (by first | rfl | trivial)
        have HN := Lib.hid hn
        clear hn
        go_wp2_with fail
        exact ⟨⟨i + 1, by omega, by go_num, HN.out⟩, by simp [intOf]; omega⟩
    · have hd : decide ((i : Int) < l.length) = false := decide_eq_false (by omega)
      obtain rfl : i = l.length := by omega
      have hr2 : r = -1 := by rw [← HRR.out]; exact idx8_miss l (fun j hj => HALL.out j hj hj)
      have HR2 := Lib.hid hr2
      clear hr2
      go_wp2_with fail
      go_ret
      rw [HR2.out]
      exact ⟨rfl, rfl⟩
theorem ContainsFunc8_c (A : Option Addr) (c : Nat) (l : List Nat) (w : World) (hr : RN .u8 w A l) :
    Calls Tryz.prog 109 #[.slice A l.length c, .func (.func 110) #[] #[]] w fun e w' => e = .returned (.bool (l.any (fun x => decide (x ≠ 0)))) ∧ w' = w := by
  have hidx := IndexFunc8_c A c l w hr
  have ha := idx8_any l
  obtain ⟨r, hrr⟩ : ∃ r, idx8 l = r := ⟨_, rfl⟩
  obtain ⟨b, hbb⟩ : ∃ b, l.any (fun x => decide (x ≠ 0)) = b := ⟨_, rfl⟩
  rw [hrr] at hidx ha
  rw [hbb] at ha ⊢
  have HIDX := Lib.hid hidx
  clear hidx hrr hr hbb
  go_enter Tryz.func109, Tryz.ntmps109
  go_wp2_with fail
  refine HIDX.out.mono ?_
  rintro e w' ⟨rfl, hb⟩
  subst hb
  go_wp2_with fail
  go_ret
  first
    | exact ⟨by rw [ha], rfl⟩
    | exact ⟨rfl, rfl⟩
/-- What is wrong with a head, or 0. -/
def headN (bs : List Nat) : Int :=
  if bs.length < 128 then 3 else if bs.take 4 ≠ binN then 4
  else if hdV bs 18 4 ≠ crcMore 0 (bs.take 18) then 5
  else if ((bs.drop 22).take 106).any (fun x => decide (x ≠ 0)) then 4
  else if 4096 ≤ hdV bs 4 4 ∨ 64 < hdV bs 8 2 then 6
  else if bs.length < 128 + hdV bs 10 4 + 34 * hdV bs 8 2 then 3 else 0
/-- '[:hi]' of bytes. -/
theorem RN.fore {P : Program} (t e : TypeId) {i : TypeInfo} (ht : P.underlying t = some (.slice e)) (hi : P.info? e = some i) (hsz : i.size = 1) (A : Option Addr) (n c m : Nat) (hm : m ≤ c) :
    ∀ W : World, (Instr.slice t (.slice A n c) none (some (.int .i64 (m : Int))) none).run P W = .ok (.slice A m c) W := fun W => by
  have hel : P.elem t = e := by simp [Program.elem, ht]
  have hu : P.underlying t = some (.slice (P.elem t)) := by rw [hel]; exact ht
  rw [run_slice_h W t A n c hu .i64 (m : Int) (Int.natCast_nonneg _) (by omega), hel]
  cases A <;> simp [sizeOf, typeInfo, hi, hsz, sliced, Result.andThen, Addr.add] 
theorem bstr_toList (p : List Nat) : (bstr p).toList = p.map UInt8.ofNat := by
  rw [Go.Lib.toList_data]
  simp [bstr]
theorem eq_bin (p : List Nat) (hp : ∀ x ∈ p, x < 256) : ((bstr p).toList == [66, 73, 78, 49]) = decide (p = binN) := by
  have e : ([66, 73, 78, 49] : List UInt8) = binN.map UInt8.ofNat := rfl
  rw [e, bstr_toList, Bool.eq_iff_iff]
  simp only [decide_eq_true_eq, beq_iff_eq]
  exact ⟨fun h => ofNat_inj _ _ hp (by decide) h, fun h => by rw [h]⟩
end Go.Proofs.YtbcamfbbooggfaaGreat.F

/- Is a head right? -/
set_option linter.unusedVariables false
set_option linter.unusedSimpArgs false
namespace Go.Proofs.YtbcamfbbooggfaaGreat.F
open Go.RowKit Go.Proofs.YtbcamfbbooggfaaGreatW.PrintWords

set_option maxRecDepth 20000 in
set_option maxHeartbeats 8000000 in
theorem headed_c (A : Option Addr) (c : Nat) (bs : List Nat) (w : World) (hr : RN .u8 w A bs) (hcap : bs.length ≤ c) (hb : ∀ x ∈ bs, x < 256) :
    Calls Tryz.prog 63 #[.slice A bs.length c] w fun e w' => e = .returned (.int .i64 (headN bs)) ∧ Below w.heap.size w w' := by
  have hm := hr.max
  by_cases h1 : bs.length < 128
  · have d1 : decide ((bs.length : Int) < 128) = true := decide_eq_true (by omega)
    have hN : headN bs = 3 := by unfold headN; rw [if_pos h1]
    rw [hN]
    clear hr hN
    go_enter Tryz.func63, Tryz.ntmps63
    go_wp2_with fail
    go_ret
    exact ⟨rfl, Below.refl _ _⟩
  have d1 : decide ((bs.length : Int) < 128) = false := decide_eq_false (by omega)
  obtain ⟨i0, hi0, hs0⟩ := info_u8''
  have s4 := fun W => RN.fore (P := Tryz.prog) 25 5 Tryz.underlying25 hi0 hs0 A bs.length c 4 (by omega) W
  have s18 := fun W => RN.fore (P := Tryz.prog) 25 5 Tryz.underlying25 hi0 hs0 A bs.length c 18 (by omega) W
  obtain ⟨A2, s22, r22⟩ := RN.mid (P := Tryz.prog) 25 5 .u8 Tryz.underlying25 hi0 hs0 A bs.length c 22 128 (by omega) (by omega) hcap
  replace s4 : ∀ W : World, (Instr.slice 25 (.slice A bs.length c) none (some (.int .i64 4)) none).run Tryz.prog W = .ok (.slice A 4 c) W := s4
  replace s18 : ∀ W : World, (Instr.slice 25 (.slice A bs.length c) none (some (.int .i64 18)) none).run Tryz.prog W = .ok (.slice A 18 c) W := s18
  replace s22 : ∀ W : World, (Instr.slice 25 (.slice A bs.length c) (some (.int .i64 22)) (some (.int .i64 128)) none).run Tryz.prog W = .ok (.slice A2 106 (c - 22)) W := s22
  have hcs := RN.string (P := Tryz.prog) (src := 25) (dst := 9) (e := 5) (c := c) Tryz.underlying25 Tryz.underlying5 Tryz.underlying9 (hr.take 4 (by omega))
  rw [strN_eq, show (bs.take 4).length = 4 by rw [List.length_take]; omega] at hcs
  replace hcs : (convert 25 9 (.slice A 4 c)).run Tryz.prog w = .ok (.string (bstr (bs.take 4))) w := hcs
  have hnq := eq_bin (bs.take 4) (fun x hx => hb x (List.mem_of_mem_take hx))
  have hN : headN bs = if bs.take 4 ≠ binN then 4 else if hdV bs 18 4 ≠ crcMore 0 (bs.take 18) then 5 else if ((bs.drop 22).take 106).any (fun x => decide (x ≠ 0)) then 4 else if 4096 ≤ hdV bs 4 4 ∨ 64 < hdV bs 8 2 then 6 else if bs.length < 128 + hdV bs 10 4 + 34 * hdV bs 8 2 then 3 else 0 := by unfold headN; rw [if_neg h1]
  by_cases h2 : bs.take 4 ≠ binN
  · rw [if_pos h2] at hN
    rw [decide_eq_false h2] at hnq
    rw [hN]
    obtain ⟨S, hS⟩ : ∃ S, bstr (bs.take 4) = S := ⟨_, rfl⟩
    rw [hS] at hcs hnq
    clear hr hN s22 r22 hi0 hs0 hS s18
    go_enter Tryz.func63, Tryz.ntmps63
    go_wp2_with fail
    go_ret
    exact ⟨rfl, Below.refl _ _⟩
  rw [if_neg h2] at hN
  rw [decide_eq_true (Decidable.not_not.1 h2)] at hnq
  have ht := TakeFixed_c A c 18 4 bs w hr hcap hb (by decide) (by decide) (by omega)
  have hnm := numbers_c A c bs w hr hcap hb (by omega)
  have hv18 := hdV_lt bs 18 4 (by omega) hb
  have hv4 := hdV_lt bs 4 4 (by omega) hb
  have hv8 := hdV_lt bs 8 2 (by omega) hb
  have hv10 := hdV_lt bs 10 4 (by omega) hb
  have hv14 := hdV_lt bs 14 4 (by omega) hb
  have hcrc : ∀ W, Below w.heap.size w W → Calls Tryz.prog 62 #[.slice A 18 c] W fun e w' => e = .returned (.int .u32 (crcMore 0 (bs.take 18) : Nat)) ∧ w' = W := fun W hW => by
    have := Crc_c A c (bs.take 18) W ((hr.below hW).take 18 (by omega)) (fun x hx => hb x (List.mem_of_mem_take hx))
    rwa [show (bs.take 18).length = 18 by rw [List.length_take]; omega] at this
  have hcf : ∀ W, Below w.heap.size w W → Calls Tryz.prog 109 #[.slice A2 106 (c - 22), .func (.func 110) #[] #[]] W fun e w' => e = .returned (.bool (((bs.drop 22).take 106).any (fun x => decide (x ≠ 0)))) ∧ w' = W := fun W hW => by
    have := ContainsFunc8_c A2 (c - 22) ((bs.drop 22).take 106) W (r22 W bs rfl (hr.below hW))
    rwa [show ((bs.drop 22).take 106).length = 106 by rw [List.length_take, List.length_drop]; omega] at this
  have hcl := crcMore_lt 0 (bs.take 18)
  obtain ⟨V18, e18⟩ : ∃ V, hdV bs 18 4 = V := ⟨_, rfl⟩
  obtain ⟨V4, e4⟩ : ∃ V, hdV bs 4 4 = V := ⟨_, rfl⟩
  obtain ⟨V8, e8⟩ : ∃ V, hdV bs 8 2 = V := ⟨_, rfl⟩
  obtain ⟨V10, e10⟩ : ∃ V, hdV bs 10 4 = V := ⟨_, rfl⟩
  obtain ⟨V14, e14⟩ : ∃ V, hdV bs 14 4 = V := ⟨_, rfl⟩
  obtain ⟨K, eK⟩ : ∃ K, crcMore 0 (bs.take 18) = K := ⟨_, rfl⟩
  obtain ⟨Z, eZ⟩ : ∃ Z, ((bs.drop 22).take 106).any (fun x => decide (x ≠ 0)) = Z := ⟨_, rfl⟩
  rw [e18] at ht hN hv18
  rw [e4] at hnm hN hv4
  rw [e8] at hnm hN hv8
  rw [e10] at hnm hN hv10
  rw [e14] at hnm hv14
  rw [eK] at hcrc hN hcl
  rw [eZ] at hcf hN
  replace hv18 : V18 < 4294967296 := hv18
  replace hv4 : V4 < 4294967296 := hv4
  replace hv8 : V8 < 65536 := hv8
  replace hv10 : V10 < 4294967296 := hv10
  replace hv14 : V14 < 4294967296 := hv14
  obtain ⟨C, hC⟩ : ∃ C, c4 V4 V8 V10 V14 = C := ⟨_, rfl⟩
  have hinf : (Tryz.prog.info? 163).map (·.size) = some C.size := by rw [← hC]; kernel_rfl
  have hone : C.all (·.oneCell') = true := by rw [← hC]; simp [c4, Value.oneCell']
  have hsz : C.size = 4 := by rw [← hC]; rfl
  have c0 : C[0]? = some (.int .i64 (V4 : Nat)) := by rw [← hC]; rfl
  have c1 : C[1]? = some (.int .i64 (V8 : Nat)) := by rw [← hC]; rfl
  have c2 : C[2]? = some (.int .i64 (V10 : Nat)) := by rw [← hC]; rfl
  rw [hC] at hnm
  obtain ⟨S, hS⟩ : ∃ S, bstr (bs.take 4) = S := ⟨_, rfl⟩
  rw [hS] at hcs hnq
  have HN := Lib.hid hN
  have HT := Lib.hid ht
  have HNM := Lib.hid hnm
  have HCRC := Lib.hid hcrc
  have HCF := Lib.hid hcf
  have HI := Lib.hid hinf
  have HO := Lib.hid hone
  clear hr hN ht hnm hcrc hcf hinf hone hC hS eZ eK e14 e10 e8 e4 e18 hi0 hs0 r22 hb
  go_enter Tryz.func63, Tryz.ntmps63
  go_wp2_with fail
  refine HT.out.mono ?_
  rintro e w5 ⟨rfl, hwe⟩
  subst hwe
  go_wp2_with fail
  refine HNM.out.mono ?_
  rintro e w6 ⟨rfl, hb6⟩
  have HB6 := Lib.hid hb6
  clear hb6
  have hnew : (w6.alloc (Obj.cells #[Value.int IntKind.i64 0, Value.int IntKind.i64 0, Value.int IntKind.i64 0, Value.int IntKind.i64 0] 163)).heap[w6.heap.size]? = some (Obj.cells #[Value.int IntKind.i64 0, Value.int IntKind.i64 0, Value.int IntKind.i64 0, Value.int IntKind.i64 0] 163 (0, 0)) := heap_alloc_new _ _
  have hst : Sem.run Tryz.prog (storeCells ⟨w6.heap.size, 0, none⟩ C.toList) (w6.alloc (Obj.cells #[Value.int IntKind.i64 0, Value.int IntKind.i64 0, Value.int IntKind.i64 0, Value.int IntKind.i64 0] 163)) = .ok () ((w6.alloc (Obj.cells #[Value.int IntKind.i64 0, Value.int IntKind.i64 0, Value.int IntKind.i64 0, Value.int IntKind.i64 0] 163)).setRow w6.heap.size C) := by
    have := run_storeCells_at (P := Tryz.prog) w6.heap.size 0 163 C.toList 0 _ _ hnew (by simp [hsz]) (fun v hv => Array.all_eq_true_iff_forall_mem.1 HO.out v (Array.mem_toList_iff.1 hv))
    rw [this]
    congr 2
    simp [hsz]
  have hb7 : Below w5.heap.size w5 ((w6.alloc (Obj.cells #[Value.int IntKind.i64 0, Value.int IntKind.i64 0, Value.int IntKind.i64 0, Value.int IntKind.i64 0] 163)).setRow w6.heap.size C) := below_setRow (HB6.out.alloc HB6.out.size _) HB6.out.size _
  have hrow := setRow_heap _ w6.heap.size _ C _ _ hnew
  obtain ⟨W7, hW7⟩ : ∃ W7, (w6.alloc (Obj.cells #[Value.int IntKind.i64 0, Value.int IntKind.i64 0, Value.int IntKind.i64 0, Value.int IntKind.i64 0] 163)).setRow w6.heap.size C = W7 := ⟨_, rfl⟩
  rw [hW7] at hst hb7 hrow
  have k0 : W7.cell? ⟨w6.heap.size, 0, none⟩ = some (.int .i64 (V4 : Nat)) := by rw [cell_of_row _ _ _ _ _ _ hrow]; exact c0
  have k1 : W7.cell? ⟨w6.heap.size, 1, none⟩ = some (.int .i64 (V8 : Nat)) := by rw [cell_of_row _ _ _ _ _ _ hrow]; exact c1
  have k2 : W7.cell? ⟨w6.heap.size, 2, none⟩ = some (.int .i64 (V10 : Nat)) := by rw [cell_of_row _ _ _ _ _ _ hrow]; exact c2
  have hcall := HCRC.out W7 hb7
  have hcall2 := HCF.out W7 hb7
  have HB7 := Lib.hid hb7
  have HCALL := Lib.hid hcall
  have HCALL2 := Lib.hid hcall2
  clear hrow hnew hW7 hb7 hcall hcall2 c0 c1 c2
  have HC7 : IntKind.i64.wrap (K : Int) = (K : Int) := by rw [IntKind.wrap_i64]; omega
  go_wp2_with fail
  refine HCALL.out.mono ?_
  rintro e w8 ⟨rfl, hw8⟩
  subst hw8
  by_cases h3 : V18 = K
  · have d3 : ((V18 : Int) != (K : Int)) = false := by simp [h3]
    go_wp2_with fail
    refine HCALL2.out.mono ?_
    rintro e w9 ⟨rfl, hw9⟩
    subst hw9
    cases Z with
    | true =>
      have hN2 : headN bs = 4 := by rw [HN.out, if_neg (by omega), if_pos rfl]
      have HN2 := Lib.hid hN2
      clear hN2
      go_wp2_with fail
      go_ret
      exact ⟨by rw [HN2.out]; rfl, HB7.out⟩
    | false =>
      have hN2 : headN bs = if 4096 ≤ V4 ∨ 64 < V8 then 6 else if bs.length < 128 + V10 + 34 * V8 then 3 else 0 := by rw [HN.out, if_neg (by omega), if_neg (by simp)]
      have HN2 := Lib.hid hN2
      clear hN2
      by_cases h4 : 4096 ≤ V4
      · have d4 : decide ((4096 : Int) ≤ (V4 : Int)) = true := decide_eq_true (by omega)
        have hN3 : headN bs = 6 := by rw [HN2.out, if_pos (.inl h4)]
        have HN3 := Lib.hid hN3
        clear hN3
        go_wp2_with fail
        go_ret
        exact ⟨by rw [HN3.out]; rfl, HB7.out⟩
      · have d4 : decide ((4096 : Int) ≤ (V4 : Int)) = false := decide_eq_false (by omega)
        by_cases h5 : 64 < V8
        · have d5 : decide ((64 : Int) < (V8 : Int)) = true := decide_eq_true (by omega)
          have hN3 : headN bs = 6 := by rw [HN2.out, if_pos (.inr h5)]
          have HN3 := Lib.hid hN3
          clear hN3
          go_wp2_with fail
          go_ret
          exact ⟨by rw [HN3.out]; rfl, HB7.out⟩
        · have d5 : decide ((64 : Int) < (V8 : Int)) = false := decide_eq_false (by omega)
          have hN3 : headN bs = if bs.length < 128 + V10 + 34 * V8 then 3 else 0 := by rw [HN2.out, if_neg (by omega)]
          have HN3 := Lib.hid hN3
          clear hN3
          by_cases h6 : bs.length - 128 < V10
          · have d6 : decide ((bs.length : Int) - 128 < (V10 : Int)) = true := decide_eq_true (by omega)
            have hN4 : headN bs = 3 := by rw [HN3.out, if_pos (by omega)]
            have HN4 := Lib.hid hN4
            clear hN4
            go_wp2_with fail
            go_ret
            exact ⟨by rw [HN4.out]; rfl, HB7.out⟩
          · have d6 : decide ((bs.length : Int) - 128 < (V10 : Int)) = false := decide_eq_false (by omega)
            by_cases h7 : bs.length < 128 + V10 + 34 * V8
            · have d7 : decide ((bs.length : Int) - 128 - (V10 : Int) < 34 * (V8 : Int)) = true := decide_eq_true (by omega)
              have hN4 : headN bs = 3 := by rw [HN3.out, if_pos h7]
              have HN4 := Lib.hid hN4
              clear hN4
              go_wp2_with fail
              go_ret
              exact ⟨by rw [HN4.out]; rfl, HB7.out⟩
            · have d7 : decide ((bs.length : Int) - 128 - (V10 : Int) < 34 * (V8 : Int)) = false := decide_eq_false (by omega)
              have hN4 : headN bs = 0 := by rw [HN3.out, if_neg h7]
              have HN4 := Lib.hid hN4
              clear hN4
              go_wp2_with fail
              go_ret
              exact ⟨by rw [HN4.out]; rfl, HB7.out⟩
  · have d3 : ((V18 : Int) != (K : Int)) = true := by simp; omega
    have hN2 : headN bs = 5 := by rw [HN.out, if_pos h3]
    have HN2 := Lib.hid hN2
    clear hN2
    go_wp2_with fail
    go_ret
    exact ⟨by rw [HN2.out]; rfl, HB7.out⟩
end Go.Proofs.YtbcamfbbooggfaaGreat.F
end

section
/- Numbers and the table, by the document. -/
set_option linter.unusedVariables false
set_option linter.unusedSimpArgs false
namespace Go.Proofs.YtbcamfbbooggfaaGreat.F
open Go.RowKit Go.Proofs.YtbcamfbbooggfaaGreatW.PrintWords
attribute [local go_sem ↓] Go.wp_at_zero Go.wp_at_succ

end Go.Proofs.YtbcamfbbooggfaaGreat.F



/- The sums; a chunk of a packer. -/
set_option linter.unusedVariables false
set_option linter.unusedSimpArgs false
namespace Go.Proofs.YtbcamfbbooggfaaGreat.F
open Go.RowKit Go.Proofs.YtbcamfbbooggfaaGreatW.PrintWords
attribute [local go_sem ↓] Go.wp_at_zero Go.wp_at_succ

theorem flat_mid (L : List (List Nat)) (i : Nat) (h : i < L.length) : (L.flatten.drop (L.take i).flatten.length).take L[i].length = L[i] := by
  have e : L.flatten = (L.take i).flatten ++ (L[i] ++ (L.drop (i + 1)).flatten) := by
    conv => lhs; rw [← List.take_append_drop i L, List.flatten_append, List.drop_eq_getElem_cons h, List.flatten_cons]
  rw [e, List.drop_append_of_le_length (by omega), List.drop_of_length_le (by omega), List.nil_append, List.take_append_of_le_length (by omega), List.take_of_length_le (by omega)]
end Go.Proofs.YtbcamfbbooggfaaGreat.F
end
