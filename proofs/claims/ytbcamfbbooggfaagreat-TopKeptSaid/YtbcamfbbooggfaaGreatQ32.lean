/- Part 32 of the proof: TGa, TGc, TGh. -/
import Derived.Test.YtbcamfbbooggfaaGreatQ04
import Derived.Test.YtbcamfbbooggfaaGreatQ03
import Derived.Deep.WholeRow
import Derived.Laws.CopyOwn
import Derived.Deep.DeepMust
import Derived.Lib.QuietBelow

section
/- Arrays of whole numbers by value; the seed's table, walked. -/
set_option linter.unusedVariables false
set_option linter.unusedSimpArgs false
namespace Go.Proofs.YtbcamfbbooggfaaGreat.F
open Go.RowKit Go.Proofs.YtbcamfbbooggfaaGreatW.PrintWords

def zeros256 : Array Value := Array.replicate 256 (.int .u32 0)
theorem zeroT : ∀ W : World, Sem.run Tryz.prog (zeroValue 35) W = .ok (.agg zeros256) W := fun _ => by kernel_rfl
theorem infoT : (Tryz.prog.info? 35).map (·.size) = some 256 := by kernel_rfl
theorem p64 : 0 < 18446744073709551616 := by omega
/-- A step of the table's numbers. -/
def mix64 (x : Nat) : Nat :=
  let y := ((x ^^^ (x / 1073741824)) * 13787848793156543929) % 18446744073709551616
  let y := ((y ^^^ (y / 134217728)) * 10723151780598845931) % 18446744073709551616
  (y ^^^ (y / 2147483648)) / 4294967296
def gtab (seed : Nat) : List Nat := (List.range 256).map fun i => mix64 ((seed + (i + 1) * 11400714819323198485) % 18446744073709551616)

theorem wrap_u64_nat (n : Nat) : IntKind.u64.wrap (n : Int) = ((n % 18446744073709551616 : Nat) : Int) := by
  have h : IntKind.u64.wrap (n : Int) = (n : Int) % 18446744073709551616 := by simp [IntKind.wrap, IntKind.bits, IntKind.signed]
  rw [h]; omega
theorem xsh (y k : Nat) (hy : y < 18446744073709551616) : Go.bits .xor .u64 (y : Int) ((y : Int) / (k : Int)) = ((y ^^^ (y / k) : Nat) : Int) := by
  have e : (y : Int) / (k : Int) = ((y / k : Nat) : Int) := by norm_cast
  rw [e]
  exact u64_xor_nat _ _ hy (Nat.lt_of_le_of_lt (Nat.div_le_self _ _) hy)
theorem mix_eq (y : Nat) (hy : y < 18446744073709551616) :
    Go.bits .xor .u64 (IntKind.u64.wrap (Go.bits .xor .u64 (IntKind.u64.wrap (Go.bits .xor .u64 (y : Int) ((y : Int) / 1073741824) * 13787848793156543929))
      (IntKind.u64.wrap (Go.bits .xor .u64 (y : Int) ((y : Int) / 1073741824) * 13787848793156543929) / 134217728) * 10723151780598845931))
      (IntKind.u64.wrap (Go.bits .xor .u64 (IntKind.u64.wrap (Go.bits .xor .u64 (y : Int) ((y : Int) / 1073741824) * 13787848793156543929))
      (IntKind.u64.wrap (Go.bits .xor .u64 (y : Int) ((y : Int) / 1073741824) * 13787848793156543929) / 134217728) * 10723151780598845931) / 2147483648) / 4294967296 % 4294967296 = ((mix64 y : Nat) : Int) := by
  have m1 : ∀ a : Nat, IntKind.u64.wrap ((a : Int) * 13787848793156543929) = (((a * 13787848793156543929) % 18446744073709551616 : Nat) : Int) := fun a => wrap_u64_nat (a * 13787848793156543929)
  have m2 : ∀ a : Nat, IntKind.u64.wrap ((a : Int) * 10723151780598845931) = (((a * 10723151780598845931) % 18446744073709551616 : Nat) : Int) := fun a => wrap_u64_nat (a * 10723151780598845931)
  rw [show ((1073741824 : Int)) = ((1073741824 : Nat) : Int) from rfl, xsh y _ hy, m1]
  have b1 : ((y ^^^ y / 1073741824) * 13787848793156543929) % 18446744073709551616 < 18446744073709551616 := Nat.mod_lt _ p64
  generalize h1 : ((y ^^^ y / 1073741824) * 13787848793156543929) % 18446744073709551616 = y1 at b1 ⊢
  rw [show ((134217728 : Int)) = ((134217728 : Nat) : Int) from rfl, xsh y1 _ b1, m2]
  have b2 : ((y1 ^^^ y1 / 134217728) * 10723151780598845931) % 18446744073709551616 < 18446744073709551616 := Nat.mod_lt _ p64
  generalize h2 : ((y1 ^^^ y1 / 134217728) * 10723151780598845931) % 18446744073709551616 = y2 at b2 ⊢
  rw [show ((2147483648 : Int)) = ((2147483648 : Nat) : Int) from rfl, xsh y2 _ b2]
  have b3 : y2 ^^^ y2 / 2147483648 < 18446744073709551616 := Nat.xor_lt_two_pow (n := 64) b2 (Nat.lt_of_le_of_lt (Nat.div_le_self _ _) b2)
  have e : mix64 y = (y2 ^^^ y2 / 2147483648) / 4294967296 := by subst h2; subst h1; rfl
  rw [e]
  omega
theorem gtab_get (seed i : Nat) (h : i < 256) : (tabA (gtab seed))[i]? = some (.int .u32 (mix64 ((seed + (i + 1) * 11400714819323198485) % 18446744073709551616) : Nat)) := by
  rw [tabA_get _ _ (by simp [gtab]; exact h)]
  simp [gtab]
theorem gtab_len (seed : Nat) : (gtab seed).length = 256 := by simp [gtab]
theorem tab_ext (cs : Array Value) (seed : Nat) (hs : cs.size = 256) (h : ∀ j, j < 256 → cs[j]? = some (.int .u32 (mix64 ((seed + (j + 1) * 11400714819323198485) % 18446744073709551616) : Nat))) : cs = tabA (gtab seed) := by
  apply Array.ext_getElem?
  intro j
  by_cases hj : j < 256
  · rw [h j hj, gtab_get seed j hj]
  · rw [Array.getElem?_eq_none (by omega), Array.getElem?_eq_none (by rw [tabA_size, gtab_len]; omega)]

theorem next_eq2 (seed i : Nat) :
    IntKind.u64.wrap ((seed : Int) + IntKind.u64.wrap (((i : Int) + 1) * 11400714819323198485)) = (((seed + (i + 1) * 11400714819323198485) % 18446744073709551616 : Nat) : Int) := by
  have e1 : ((i : Int) + 1) * 11400714819323198485 = (((i + 1) * 11400714819323198485 : Nat) : Int) := by rw [Int.natCast_mul]; rfl
  rw [e1, wrap_u64_nat]
  have e2 : (seed + (i + 1) * 11400714819323198485 % 18446744073709551616) % 18446744073709551616 = (seed + (i + 1) * 11400714819323198485) % 18446744073709551616 := Nat.add_mod_mod _ _ _
  rw [← e2]
  exact wrap_u64_nat (seed + (i + 1) * 11400714819323198485 % 18446744073709551616)
theorem refTable_c (seed : Nat) (hs : seed < 18446744073709551616) (w : World) :
    Calls Tryz.prog 5 #[.int .u64 seed] w fun e w' => e = .returned (.agg (tabA (gtab seed))) ∧ Below w.heap.size w w' := by
  have hz := zeroT
  have hbd : ∀ W : World, (Instr.build 35 #[]).run Tryz.prog W = .ok (.agg zeros256) W := fun _ => by kernel_rfl
  have hi2 : (Tryz.prog.info? 35).map (·.size) = some zeros256.size := by rw [infoT]; simp [zeros256]
  have ho2 : zeros256.all (·.oneCell') = true := by decide +kernel
  have hs2 : zeros256.size = zeros256.size := rfl
  have HI2 := Lib.hid hi2
  have HO2 := Lib.hid ho2
  clear hi2 ho2 hs2
  go_enter Tryz.func5, Tryz.ntmps5
  go_wp2_with (refine wpList_store_row rfl 35 (.tmp 3) (.tmp 6) rfl (w.heap.size + 1) rfl zeros256 zeros256 rfl 35 (heap_alloc2_new _ _ _) HI2.out rfl HO2.out ?_)
  go_loopw [4] (fun vi W => ∃ (i : Nat) (cs : Array Value), i ≤ 256 ∧ vi = .int .i64 i ∧ W.heap[w.heap.size + 1]? = some (.cells cs 35 (0, 0)) ∧ W.heap[w.heap.size]? = some (.cells zeros256 35 (0, 0)) ∧ cs.size = 256 ∧ (∀ j, j < 256 → ∃ x : Nat, cs[j]? = some (.int .u32 x)) ∧ (∀ j, j < i → cs[j]? = some (.int .u32 (mix64 ((seed + (j + 1) * 11400714819323198485) % 18446744073709551616) : Nat))) ∧ Below w.heap.size w W) (fun vi _ => 256 - (intOf vi).toNat)
  case atStart => exact ⟨0, zeros256, by omega, rfl, setRow_heap _ _ _ _ _ _ (heap_alloc2_new _ _ _), by rw [setRow_other _ _ _ _ (by simp)]; exact heap_alloc2_old _ _ _, by simp [zeros256], fun j hj => ⟨0, by simp [zeros256, hj]⟩, fun j hj => by omega, below_setRow (((Below.refl _ _).alloc (Nat.le_refl _) _).alloc (by simp) _) (by simp) _⟩
  case round =>
    obtain ⟨i, cs, hi, rfl, hb1, hb0, hcs, hall, hdone, hW⟩ := hrel
    have HD := Lib.hid hdone
    have HA := Lib.hid hall
    have HB1 := Lib.hid hb1
    have HB0 := Lib.hid hb0
    have HC := Lib.hid hcs
    clear hdone hall hb1 hb0 hcs
    by_cases hlt : i < 256
    · have hd : decide ((i : Int) < 256) = true := by simp; omega
      obtain ⟨x0, hx0⟩ := HA.out i hlt
      have hcell : wr.cell? ⟨w.heap.size + 1, i, none⟩ = some (.int .u32 x0) := by rw [cell_of_row _ _ _ _ _ _ HB1.out]; exact hx0
      have hfr : wr.frozen? ⟨w.heap.size + 1, i, none⟩ = false := frozen_of_row _ _ _ _ _ HB1.out
      clear hx0
      go_wp2_with fail
      rw [next_eq2, mix_eq _ (Nat.mod_lt _ p64)]
      refine ⟨⟨i + 1, cs.setIfInBounds i (.int .u32 (mix64 ((seed + (i + 1) * 11400714819323198485) % 18446744073709551616) : Nat)), by omega, by go_num, heap_setCell_same _ _ _ _ _ _ HB1.out, ?_, by simpa using HC.out, fun j hj => ?_, fun j hj => ?_, hW.setCell (by simp) _⟩, by simp [intOf]; omega⟩
      · rw [heap_setCell_other _ _ _ _ (by simp)]; exact HB0.out
      · by_cases e : i = j
        · subst e; exact ⟨_, Array.getElem?_setIfInBounds_self_of_lt (by rw [HC.out]; exact hj)⟩
        · rw [Array.getElem?_setIfInBounds_ne e]; exact HA.out j hj
      · by_cases e : i = j
        · subst e; exact Array.getElem?_setIfInBounds_self_of_lt (by rw [HC.out]; exact hlt)
        · rw [Array.getElem?_setIfInBounds_ne e]; exact HD.out j (by omega)
    · have hd : decide ((i : Int) < 256) = false := by simp; omega
      obtain rfl : i = 256 := by omega
      have hcs2 := tab_ext cs seed HC.out HD.out
      obtain ⟨tt, htt⟩ : ∃ tt, tabA (gtab seed) = tt := ⟨_, rfl⟩
      have hb1 := HB1.out
      have hb0 := HB0.out
      rw [hcs2, htt] at hb1
      have hi2 : (Tryz.prog.info? 35).map (·.size) = some tt.size := by rw [← htt, tabA_size, gtab_len]; exact infoT
      have ho2 : tt.all (·.oneCell') = true := by rw [← htt]; exact tabA_one _
      have HI := Lib.hid hi2
      have HO := Lib.hid ho2
      have hs2 : zeros256.size = tt.size := by rw [← htt, tabA_size, gtab_len]; simp [zeros256]
      have HS := Lib.hid hs2
      clear hs2
      have HT := Lib.hid htt
      have HC1 := Lib.hid hb1
      have HC0 := Lib.hid hb0
      clear hi2 ho2 htt hb1 hb0 hcs2 HB1 HB0 HC HD HA
      go_wp2_with (first | (refine wpList_store_row rfl 35 (.tmp 2) (.tmp 36) rfl w.heap.size rfl tt zeros256 rfl 35 HC0.out HI.out HS.out HO.out ?_) | refine wpList_load_row rfl 35 (.tmp 3) rfl (w.heap.size + 1) rfl 35 _ (0, 0) _ HC1.out Tryz.underlying35 rfl HI.out ?_)
      (try simp only [Exit.inBlock, Exit.then])
      refine bodyPost_ret (v := .agg tt) (results_cell_row rfl _ _ w.heap.size 35 tt (0, 0) _ rfl (setRow_heap _ _ _ _ _ _ HC0.out) Tryz.underlying35 rfl HI.out) rfl ⟨by rw [HT.out], ?_⟩
      exact below_setRow hW (Nat.le_refl _) _

end Go.Proofs.YtbcamfbbooggfaaGreat.F
end

section
/- Which bounds there are, walked. -/
set_option linter.unusedVariables false
set_option linter.unusedSimpArgs false
namespace Go.Proofs.YtbcamfbbooggfaaGreat.F
open Go.RowKit Go.Proofs.YtbcamfbbooggfaaGreatW.PrintWords

theorem beq_comm' (a b : Int) : (a == b) = (b == a) := by
  by_cases h : a = b
  · rw [h]
  · rw [beq_eq_false_iff_ne.2 h, beq_eq_false_iff_ne.2 (fun e => h e.symm)]
def isPow (n : Int) : Bool := (List.range 9).any fun k => n == ((2 ^ k : Nat) : Int)
/-- Bounds that may be. -/
def cutOk (mn av mx : Int) : Bool := decide (1 ≤ mn) && decide (mn ≤ mx) && decide (mx ≤ 512) && isPow av
/-- What Check tells. -/
def checkV (mn av mx : Int) : Int := if cutOk mn av mx = true then 0 else 2
theorem isPow_range {n : Int} (h : isPow n = true) : 1 ≤ n ∧ n ≤ 256 := by
  unfold isPow at h
  simp only [List.any_eq_true, List.mem_range, beq_iff_eq] at h
  obtain ⟨k, hk, rfl⟩ := h
  have : ∀ k : Fin 9, 1 ≤ 2 ^ k.val ∧ 2 ^ k.val ≤ 256 := by decide
  have := this ⟨k, hk⟩
  simp only at this
  omega
theorem refCheck_c (mn av mx : Int) (w : World) :
    Calls Tryz.prog 23 #[.agg #[.int .i64 mn, .int .i64 av, .int .i64 mx]] w fun e w' => e = .returned (.int .i64 (checkV mn av mx)) ∧ Below w.heap.size w w' := by
  go_enter Tryz.func23, Tryz.ntmps23
  go_wp2
  go_loopw [3, 4] (fun vp vn W => ∃ k : Nat, k ≤ 9 ∧ vn = .int .i64 ((2 ^ k : Nat) : Int) ∧ vp = .bool ((List.range k).any fun j => av == ((2 ^ j : Nat) : Int)) ∧ W = w.alloc (.cells #[.int .i64 mn, .int .i64 av, .int .i64 mx] 23)) (fun _ vn _ => 512 - (intOf vn).toNat)
  case atStart => exact ⟨0, by omega, rfl, rfl, rfl⟩
  case round =>
    obtain ⟨k, hk, rfl, rfl, rfl⟩ := hrel
    have hp1 : 1 ≤ 2 ^ k := Nat.one_le_two_pow
    have hp2 : 2 ^ k ≤ 512 := Nat.pow_le_pow_right (n := 2) (i := k) (j := 9) (by omega) hk
    obtain ⟨n, hn⟩ : ∃ n, 2 ^ k = n := ⟨_, rfl⟩
    have hn9 : k < 9 → n ≤ 256 := fun h => by rw [← hn]; exact Nat.pow_le_pow_right (n := 2) (i := k) (j := 8) (by omega) (by omega)
    have hn10 : k = 9 → n = 512 := fun h => by rw [← hn, h]
    obtain ⟨b, hb⟩ : ∃ b, ((List.range k).any fun j => av == ((2 ^ j : Nat) : Int)) = b := ⟨_, rfl⟩
    rw [hn] at hp1 hp2 ⊢
    rw [hb]
    have HN := Lib.hid hn
    have HB := Lib.hid hb
    have HN9 := Lib.hid hn9
    have HN10 := Lib.hid hn10
    clear hn hb hn9 hn10
    by_cases hlt : k < 9
    · have h9 := HN9.out hlt
      have hd : decide ((n : Int) ≤ 256) = true := by simp; omega
      have hnext : 2 ^ (k + 1) = n * 2 := by rw [Nat.pow_succ, HN.out]
      have HX := Lib.hid hnext
      clear hnext
      cases b
      · go_wp2
        refine ⟨⟨k + 1, by omega, ?_, ?_, by first | rfl | trivial⟩, by simp [intOf]; omega⟩
        · rw [HX.out]; go_num
        · rw [List.range_succ, List.any_append, HB.out]; simp only [List.any_cons, List.any_nil, Bool.or_false, Bool.false_or, HN.out]; congr 1; exact beq_comm' _ _
      · go_wp2
        refine ⟨⟨k + 1, by omega, ?_, ?_, by first | rfl | trivial⟩, by simp [intOf]; omega⟩
        · rw [HX.out]; go_num
        · rw [List.range_succ, List.any_append, HB.out]; simp
    · obtain rfl : k = 9 := by omega
      have h9 := HN10.out rfl
      have hd : decide ((n : Int) ≤ 256) = false := by simp; omega
      have hpow : isPow av = b := HB.out
      have hf : Below w.heap.size w (w.alloc (.cells #[.int .i64 mn, .int .i64 av, .int .i64 mx] 23)) := (Below.refl _ _).alloc (Nat.le_refl _) _
      have hv : checkV mn av mx = if (1 ≤ mn ∧ mn ≤ mx ∧ mx ≤ 512) ∧ b = true then 0 else 2 := by
        unfold checkV cutOk
        rw [hpow]
        by_cases c1 : 1 ≤ mn <;> by_cases c2 : mn ≤ mx <;> by_cases c3 : mx ≤ 512 <;> simp [c1, c2, c3]
      have HV := Lib.hid hv
      clear hv hpow
      cases b
      · go_wp2
        go_ret
        exact ⟨by rw [HV.out, if_neg (fun h => Bool.noConfusion h.2)]; rfl, hf⟩
      · by_cases c1 : mn < 1
        · have d1 : decide (mn < 1) = true := by simp; omega
          go_wp2
          go_ret
          exact ⟨by rw [HV.out, if_neg (by omega)]; rfl, hf⟩
        have d1 : decide (mn < 1) = false := by simp; omega
        by_cases c2 : mx < mn
        · have d2 : decide (mx < mn) = true := by simp; omega
          go_wp2
          go_ret
          exact ⟨by rw [HV.out, if_neg (by omega)]; rfl, hf⟩
        have d2 : decide (mx < mn) = false := by simp; omega
        by_cases c3 : 512 < mx
        · have d3 : decide (512 < mx) = true := by simp; omega
          go_wp2
          go_ret
          exact ⟨by rw [HV.out, if_neg (by omega)]; rfl, hf⟩
        · have d3 : decide (512 < mx) = false := by simp; omega
          go_wp2
          go_ret
          have hv0 : checkV mn av mx = 0 := by rw [HV.out]; exact if_pos ⟨by omega, by first | rfl | trivial⟩
          exact ⟨by rw [hv0]; rfl, hf⟩
end Go.Proofs.YtbcamfbbooggfaaGreat.F
end

section
/- The reference's hash, the first chunk's end, the chunks, walked. -/
set_option linter.unusedVariables false
set_option linter.unusedSimpArgs false
namespace Go.Proofs.YtbcamfbbooggfaaGreat.F
open Go.RowKit Go.Proofs.YtbcamfbbooggfaaGreatW.PrintWords

/-- One byte more. -/
def hstep (tb : List Nat) (h b : Nat) : Nat := (2 * h + tb.getD b 0) % 4294967296
def ghash (tb : List Nat) (p : List Nat) : Nat := p.foldl (hstep tb) 0
theorem hstep_lt (tb : List Nat) (h b : Nat) : hstep tb h b < 4294967296 := Nat.mod_lt _ (by omega)
theorem ghash_lt (tb p : List Nat) : ghash tb p < 4294967296 := by
  unfold ghash
  rcases List.eq_nil_or_concat p with rfl | ⟨q, b, rfl⟩
  · simp
  · rw [List.concat_eq_append, List.foldl_append]; exact hstep_lt _ _ _
theorem ghash_snoc (tb p : List Nat) (b : Nat) : ghash tb (p ++ [b]) = hstep tb (ghash tb p) b := by simp [ghash]

theorem refHash_c (A : Option Addr) (c : Nat) (tb p : List Nat) (w : World) (ht : tb.length = 256) (hb : ∀ x ∈ tb, x < 4294967296) (hr : RN .u8 w A p) (hp : ∀ x ∈ p, x < 256) :
    Calls Tryz.prog 88 #[.agg (tabA tb), .slice A p.length c] w fun e w' => e = .returned (.int .u32 (ghash tb p : Nat)) ∧ Below w.heap.size w w' := by
  have hm := hr.max
  have hB : Below w.heap.size w (w.alloc (.cells (tabA tb) 35)) := (Below.refl _ _).alloc (Nat.le_refl _) _
  have hr1 := hr.below hB
  have hcells : ∀ b, b < 256 → (w.alloc (.cells (tabA tb) 35)).cell? ⟨w.heap.size, b, none⟩ = some (.int .u32 (tb.getD b 0 : Nat)) := fun b hb => by
    rw [World.cell?_alloc_new, tabA_get _ _ (by omega), List.getD_eq_getElem?_getD, List.getElem?_eq_getElem (by omega)]; rfl
  have HC := Lib.hid hcells
  clear hcells
  obtain ⟨tt, htt⟩ : ∃ tt, tabA tb = tt := ⟨_, rfl⟩
  rw [htt] at hB hr1 HC ⊢
  clear htt
  go_enter Tryz.func88, Tryz.ntmps88
  go_wp2_with fail
  go_loop [5, 6] (fun vh vi => ∃ i : Nat, i ≤ p.length ∧ vi = .int .i64 i ∧ vh = .int .u32 (ghash tb (p.take i) : Nat)) (fun _ vi => p.length - (intOf vi).toNat)
  case atStart => exact ⟨0, by omega, rfl, by simp [ghash]⟩
  case round =>
    obtain ⟨i, hi, rfl, rfl⟩ := hrel
    by_cases hlt : i < p.length
    · have hd : decide ((i : Int) < p.length) = true := by simp; omega
      obtain ⟨ad, e, hci⟩ := hr1.at i hlt
      subst e
      obtain ⟨y, hy⟩ : ∃ y, p[i] = y := ⟨_, rfl⟩
      rw [hy] at hci
      have ly : y < 256 := by rw [← hy]; exact hp _ (List.getElem_mem _)
      have HY := Lib.hid hy
      have hcy := HC.out y ly
      have hg := ghash_lt tb (p.take i)
      have hn : ghash tb (p.take (i + 1)) = hstep tb (ghash tb (p.take i)) y := by rw [List.take_succ_eq_append_getElem hlt, hy, ghash_snoc]
      obtain ⟨z, hz⟩ : ∃ z, ghash tb (p.take i) = z := ⟨_, rfl⟩
      obtain ⟨u, hu⟩ : ∃ u, tb.getD y 0 = u := ⟨_, rfl⟩
      rw [hz] at hg hn ⊢
      rw [hu] at hcy
      have HN := Lib.hid hn
      have HU := Lib.hid hu
      clear hy hn hz hu
      go_wp2_with fail
      refine ⟨⟨i + 1, by omega, by go_num, ?_⟩, by simp [intOf]; omega⟩
      rw [HN.out]
      unfold hstep
      rw [HU.out]
      congr 1
      omega
    · have hd : decide ((i : Int) < p.length) = false := by simp; omega
      have e : p.take i = p := List.take_of_length_le (by omega)
      rw [e]
      obtain ⟨z, hz⟩ : ∃ z, ghash tb p = z := ⟨_, rfl⟩
      rw [hz]
      have HZ := Lib.hid hz
      clear hz
      go_wp2_with fail
      go_ret
      exact ⟨by rw [HZ.out]; rfl, hB⟩

/-- Does a chunk end behind k bytes? -/
def endsB (av mx : Nat) (tb p : List Nat) (k : Nat) : Bool := decide (k = mx) || decide (ghash tb (p.take k) * av < 4294967296)
/-- Where the first chunk ends; 0: nowhere. -/
def first (mn av mx : Nat) (tb p : List Nat) : Nat := ((List.range' mn (p.length + 1 - mn)).find? (endsB av mx tb p)).getD 0

section
variable {P : Program} {ops : Array Oper} {C : World → Prop} {Q : Act → Prop} {a : Act} {o : Oper} {rest : List Oper}
/-- A whole array read, in a region that draws its order. -/
theorem wpQuiet_load_row (hw : Region.wanted o (yielded ops a.tmps) = true) (ty : TypeId) (x : Operand) (ho : o.op = .load ty x) (g : Nat) (hx : a.eval x = .pointer (some ⟨g, 0, none⟩)) (t : TypeId) (cs : Array Value) (fr : Nat × Nat) (d : TypeDesc)
    (hg : ∀ w, C w → w.heap[g]? = some (.cells cs t fr)) (hu : P.underlying ty = some d) (hd : (match d with | .struct _ | .array _ _ => true | _ => false) = true) (hi : (P.info? ty).map (·.size) = some cs.size)
    (h : wpQuiet P ops C Q rest (a.put o.dst (.agg cs))) : wpQuiet P ops C Q (o :: rest) a := by
  unfold wpQuiet
  rw [if_pos hw]
  refine ⟨.agg cs, fun w hC => ?_, h⟩
  unfold Oper.quietAt execOp
  simp only [ho, hx, Instr.loadAt, Instr.sureAddr, Sem.run_bind, Sem.run_pure, Result.andThen_ok, run_loadVar_row w g t ty cs fr d (hg w hC) hu hd hi]
  exact ⟨rfl, rfl⟩
end
theorem heap_regrown {w : World} {g : Nat} {ob : Obj} (h : w.heap[g]? = some ob) (d : Nat) (os : Array Obj) : (Sort.grow (redrawn w d) os).heap[g]? = some ob := by
  have hlt : g < w.heap.size := (Array.getElem?_eq_some_iff.1 h).1
  rw [(below_regrown w d os).block g hlt]; exact h

theorem mul_u64 (h av : Nat) (hg : h < 4294967296) (h4 : av ≤ 256) : IntKind.u64.wrap ((h : Int) * (av : Int)) = ((h * av : Nat) : Int) := by
  have hb2 : h * av ≤ 4294967296 * 256 := Nat.mul_le_mul (by omega) h4
  rw [show (h : Int) * (av : Int) = ((h * av : Nat) : Int) by rw [Int.natCast_mul], wrap_u64_nat, Nat.mod_eq_of_lt (by omega)]
theorem id_u64 (h : Nat) (hg : h < 18446744073709551616) : IntKind.u64.wrap (h : Int) = (h : Int) := by rw [wrap_u64_nat, Nat.mod_eq_of_lt hg]
theorem dec_lt32 (g : Nat) : decide ((g : Int) < 4294967296) = decide (g < 4294967296) := decide_eq_decide.2 (by omega)
theorem First_c (A : Option Addr) (c : Nat) (mn av mx : Nat) (tb p : List Nat) (w : World) (ht : tb.length = 256) (hb : ∀ x ∈ tb, x < 4294967296) (hr : RN .u8 w A p) (hp : ∀ x ∈ p, x < 256)
    (h1 : 1 ≤ mn) (h2 : mn ≤ mx) (h3 : mx ≤ 512) (h4 : av ≤ 256) (hc : p.length ≤ c) (hn : p.length ≤ 4611686018427387904) :
    Calls Tryz.prog 52 #[.agg #[.int .i64 mn, .int .i64 av, .int .i64 mx], .agg (tabA tb), .slice A p.length c] w fun e w' => e = .returned (.int .i64 (first mn av mx tb p : Nat)) ∧ Below w.heap.size w w' := by
  have hm := hr.max
  have hit : (Tryz.prog.info? 35).map (·.size) = some (tabA tb).size := by rw [tabA_size, ht]; exact infoT
  have hhash := fun (A : Option Addr) (c : Nat) (q : List Nat) (W : World) => refHash_c A c tb q W ht hb
  obtain ⟨tt, htt⟩ : ∃ tt, tabA tb = tt := ⟨_, rfl⟩
  rw [htt] at hit hhash ⊢
  clear htt
  have HI := Lib.hid hit
  have HH := Lib.hid hhash
  clear hit hhash
  go_enter Tryz.func52, Tryz.ntmps52
  go_wp2_with fail
  have hB0 : Below w.heap.size w ((w.alloc (.cells #[.int .i64 mn, .int .i64 av, .int .i64 mx] 23)).alloc (.cells tt 35)) := ((Below.refl _ _).alloc (Nat.le_refl _) _).alloc (by simp) _
  obtain ⟨W0, hW0⟩ : ∃ W0, (w.alloc (.cells #[.int .i64 mn, .int .i64 av, .int .i64 mx] 23)).alloc (.cells tt 35) = W0 := ⟨_, rfl⟩
  have hg1 : W0.heap[w.heap.size]? = some (.cells #[.int .i64 mn, .int .i64 av, .int .i64 mx] 23 (0, 0)) := by rw [← hW0]; exact heap_alloc2_old _ _ _
  have hg2 : W0.heap[w.heap.size + 1]? = some (.cells tt 35 (0, 0)) := by rw [← hW0]; exact heap_alloc2_new _ _ _
  rw [hW0] at hB0 ⊢
  clear hW0
  have HG1 := Lib.hid hg1
  have HG2 := Lib.hid hg2
  clear hg1 hg2
  go_loopw [7] (fun vk W => ∃ k : Nat, mn ≤ k ∧ k ≤ p.length + mn ∧ vk = .int .i64 k ∧ ((List.range' k (p.length + 1 - k)).find? (endsB av mx tb p)).getD 0 = first mn av mx tb p ∧ Below W0.heap.size W0 W) (fun vk _ => p.length + mn + 1 - (intOf vk).toNat)
  case atStart => exact ⟨mn, by omega, by omega, rfl, rfl, Below.refl _ _⟩
  case round =>
    obtain ⟨k, hk1, hk2, rfl, hf, hW⟩ := hrel
    have HF := Lib.hid hf
    clear hf
    have hs := hB0.size
    have e1 := (hW.block w.heap.size (Array.getElem?_eq_some_iff.1 HG1.out).1).trans HG1.out
    have e2 := (hW.block (w.heap.size + 1) (Array.getElem?_eq_some_iff.1 HG2.out).1).trans HG2.out
    have E1 := Lib.hid e1
    have E2 := Lib.hid e2
    have hBk : Below w.heap.size w wr := hB0.trans (hW.mono hs)
    by_cases hle : k ≤ p.length
    · have hd : decide ((k : Int) ≤ p.length) = true := by simp; omega
      have hfk : first mn av mx tb p = if endsB av mx tb p k = true then k else ((List.range' (k + 1) (p.length + 1 - (k + 1))).find? (endsB av mx tb p)).getD 0 := by
        rw [← HF.out, show p.length + 1 - k = (p.length + 1 - (k + 1)) + 1 by omega, List.range'_succ, List.find?_cons]
        cases endsB av mx tb p k <;> rfl
      have HFK := Lib.hid hfk
      clear hfk
      by_cases hkm : k = mx
      · subst hkm
        have c2 : ∀ n, (wr.drewN n).cell? ⟨w.heap.size, 2, none⟩ = some (.int .i64 k) := fun n => by
          show wr.cell? _ = _
          rw [cell_of_row _ _ _ _ _ _ E1.out]; rfl
        go_wp2_with fail
        go_quiet (fail)
        go_wp2_with fail
        go_ret
        exact ⟨by rw [HFK.out, if_pos (by simp [endsB])]; rfl, pw_below_drewN hBk _⟩
      · have hne : ((k : Int) == mx) = false := beq_eq_false_iff_ne.2 (by omega)
        have c2 : ∀ d os, (Sort.grow (redrawn wr d) os).cell? ⟨w.heap.size, 2, none⟩ = some (.int .i64 mx) := fun d os => by rw [cell_of_row _ _ _ _ _ _ (heap_regrown E1.out d os)]; rfl
        have c1 : ∀ d os, (Sort.grow (redrawn wr d) os).cell? ⟨w.heap.size, 1, none⟩ = some (.int .i64 av) := fun d os => by rw [cell_of_row _ _ _ _ _ _ (heap_regrown E1.out d os)]; rfl
        have hrk : ∀ d os, RN .u8 (Sort.grow (redrawn wr d) os) A (p.take k) := fun d os => ((hr.below hBk).below (below_regrown _ _ _)).take k hle
        have lk : ∀ x ∈ p.take k, x < 256 := fun x hx => hp x (List.mem_of_mem_take hx)
        have hlk : (p.take k).length = k := by rw [List.length_take]; omega
        have HRK := Lib.hid hrk
        have HLK := Lib.hid hlk
        have HKM := Lib.hid hkm
        clear hrk hlk hkm
        have hg := ghash_lt tb (p.take k)
        obtain ⟨h, hh⟩ : ∃ h, ghash tb (p.take k) = h := ⟨_, rfl⟩
        rw [hh] at hg
        have HHH := Lib.hid hh
        clear hh
        go_wp2_with fail
        refine wp_region_quiet_below (by kernel_rfl) (by kernel_rfl) ?_
        iterate 5 (quiet_step (fail))
        refine wpQuiet_load_row (by rfl) 35 (.tmp 4) rfl (w.heap.size + 1) rfl 35 tt (0, 0) _ (fun w' hw' => by obtain ⟨pr, rfl⟩ := hw'; exact heap_regrown E2.out _ _) Tryz.underlying35 rfl HI.out ?_
        have hkc : k ≤ c := by omega
        iterate 3 (quiet_step (fail))
        have hcall : ∀ d os, Calls Tryz.prog 88 #[.agg tt, .slice A k c] (Sort.grow (redrawn wr d) os) fun e w'' => e = .returned (.int .u32 (h : Nat)) ∧ ∃ p : Regrown, w'' = Sort.grow (redrawn wr p.d) p.os := fun d os => by
          have := Calls.regrown_of (HH.out A c (p.take k) _ (HRK.out d os) lk)
          rw [HLK.out, HHH.out] at this
          exact this
        have HCALL := Lib.hid hcall
        clear hcall
        have w1 := id_u64 h (by omega)
        have w2 := id_u64 av (by omega)
        have hmul := mul_u64 h av hg h4
        have hex : endsB av mx tb p k = decide (h * av < 4294967296) := by
          unfold endsB
          rw [HHH.out, decide_eq_false HKM.out, Bool.false_or]
        have HEX := Lib.hid hex
        have hge : ∃ g, h * av = g := ⟨_, rfl⟩
        obtain ⟨g, hg2⟩ := hge
        rw [hg2] at hmul hex
        have HE := Lib.hid hex
        clear hex hg2 HEX
        repeat (quiet_step (exact HCALL.out _ _))
        refine wpQuiet_nil ?_
        intro wq hw'
        have hBq : Below wr.heap.size wr wq := by
          obtain ⟨⟨dq, osq⟩, hw''⟩ := hw'
          rw [hw'']; exact below_regrown wr dq osq
        clear hw' c1 c2 hmul w1 w2
        have hbeta : decide ((g : Int) < 4294967296) = endsB av mx tb p k := by rw [HE.out]; exact dec_lt32 g
        rw [hbeta]
        obtain ⟨beta, hb2⟩ : ∃ beta, endsB av mx tb p k = beta := ⟨_, rfl⟩
        have hfk := HFK.out
        rw [hb2] at hfk ⊢
        have HFE := Lib.hid hfk
        clear hfk hb2 hbeta HFK HE hg
        cases beta
        · go_wp2_with fail
          exact ⟨⟨k + 1, by omega, by omega, by go_num, by rw [HFE.out]; rfl, hW.trans (hBq.mono hW.size)⟩, by simp [intOf]; omega⟩
        · go_wp2_with fail
          go_ret
          exact ⟨by rw [HFE.out]; rfl, hBk.trans (hBq.mono hBk.size)⟩
    · have hd : decide ((k : Int) ≤ p.length) = false := by simp; omega
      have h := HF.out
      rw [show p.length + 1 - k = 0 by omega] at h
      have hfe : first mn av mx tb p = 0 := h.symm
      have HFE := Lib.hid hfe
      clear hfe h
      go_wp2_with fail
      go_ret
      exact ⟨by rw [HFE.out]; rfl, hBk⟩
end Go.Proofs.YtbcamfbbooggfaaGreat.F
end
