/- Arrays of whole numbers by value; the seed's table, walked. -/
import Derived.Test.YtbckibjpaiealaaB
import Derived.Deep.WholeRow
import Derived.Laws.CopyOwn
import Derived.Deep.DeepMust
set_option linter.unusedVariables false
set_option linter.unusedSimpArgs false
namespace Go.Proofs.Ytbckibjpaiealaa.F
open Go.RowKit Go.Proofs.YtbckibjpaiealaaW.PrintWords

/-- An array's cells. -/
def tabA (xs : List Nat) : Array Value := (xs.map (encN .u32)).toArray
theorem tabA_size (xs : List Nat) : (tabA xs).size = xs.length := by simp [tabA]
theorem tabA_get (xs : List Nat) (i : Nat) (h : i < xs.length) : (tabA xs)[i]? = some (.int .u32 (xs[i] : Nat)) := by simp [tabA, h, encN]
def zeros256 : Array Value := Array.replicate 256 (.int .u32 0)
theorem zeroT : ∀ W : World, Sem.run Try.prog (zeroValue 27) W = .ok (.agg zeros256) W := fun _ => by kernel_rfl
theorem infoT : (Try.prog.info? 27).map (·.size) = some 256 := by kernel_rfl
theorem tabA_one (xs : List Nat) : (tabA xs).all (·.oneCell') = true := by simp [tabA, encN, Value.oneCell']

theorem p64 : 0 < 18446744073709551616 := by omega
section
variable {P : Program} {ops : Array Oper} {rest : List Oper} {o : Oper} {a : Act} {w : World} {Q : Exit → Act → World → Prop}
/-- A whole array into a block. -/
theorem wpList_store_row (hgd : o.guard = none) (ty : TypeId) (p x : Operand) (ho : o.op = .store ty p x) (g : Nat) (hp : a.eval p = .pointer (some ⟨g, 0, none⟩)) (cs old : Array Value) (hx : a.eval x = .agg cs)
    (t : TypeId) (hg : w.heap[g]? = some (.cells old t (0, 0))) (hi : (P.info? ty).map (·.size) = some cs.size) (hs : old.size = cs.size) (h1 : cs.all (·.oneCell') = true)
    (h : wpList P ops Q rest (a.put o.dst undef) (w.setRow g cs)) : wpList P ops Q (o :: rest) a w :=
  wpList_plain hgd fun K hK => by
    unfold Oper.wp execOp
    simp only [ho, hp, hx, Instr.storeAt, Instr.sureAddr, Sem.run_bind, Sem.run_pure, Result.andThen_ok, run_storeVar_row w g t ty old cs hg hi hs h1]
    exact hK _ _ h
end
/-- A step of the table's numbers. -/
def mix64 (x : Nat) : Nat :=
  let y := ((x ^^^ (x / 1073741824)) * 13787848793156543929) % 18446744073709551616
  let y := ((y ^^^ (y / 134217728)) * 10723151780598845931) % 18446744073709551616
  (y ^^^ (y / 2147483648)) / 4294967296
def gtab (seed : Nat) : List Nat := (List.range 256).map fun i => mix64 ((seed + (i + 1) * 11400714819323198485) % 18446744073709551616)

theorem wrap_u64_nat (n : Nat) : IntKind.u64.wrap (n : Int) = ((n % 18446744073709551616 : Nat) : Int) := by
  have h : IntKind.u64.wrap (n : Int) = (n : Int) % 18446744073709551616 := by simp [IntKind.wrap, IntKind.bits, IntKind.signed]
  rw [h]; omega
theorem xsh (y k : Nat) (hy : y < 18446744073709551616) : Go.bits .xor .u64 (y : Int) ((y : Int) / (k : Int)) = ((y ^^^ (y / k) : Nat) : Int) := by
  have e : (y : Int) / (k : Int) = ((y / k : Nat) : Int) := by norm_cast
  rw [e]
  exact u64_xor_nat _ _ hy (Nat.lt_of_le_of_lt (Nat.div_le_self _ _) hy)
theorem mix_eq (y : Nat) (hy : y < 18446744073709551616) :
    Go.bits .xor .u64 (IntKind.u64.wrap (Go.bits .xor .u64 (IntKind.u64.wrap (Go.bits .xor .u64 (y : Int) ((y : Int) / 1073741824) * 13787848793156543929))
      (IntKind.u64.wrap (Go.bits .xor .u64 (y : Int) ((y : Int) / 1073741824) * 13787848793156543929) / 134217728) * 10723151780598845931))
      (IntKind.u64.wrap (Go.bits .xor .u64 (IntKind.u64.wrap (Go.bits .xor .u64 (y : Int) ((y : Int) / 1073741824) * 13787848793156543929))
      (IntKind.u64.wrap (Go.bits .xor .u64 (y : Int) ((y : Int) / 1073741824) * 13787848793156543929) / 134217728) * 10723151780598845931) / 2147483648) / 4294967296 % 4294967296 = ((mix64 y : Nat) : Int) := by
  have m1 : ∀ a : Nat, IntKind.u64.wrap ((a : Int) * 13787848793156543929) = (((a * 13787848793156543929) % 18446744073709551616 : Nat) : Int) := fun a => wrap_u64_nat (a * 13787848793156543929)
  have m2 : ∀ a : Nat, IntKind.u64.wrap ((a : Int) * 10723151780598845931) = (((a * 10723151780598845931) % 18446744073709551616 : Nat) : Int) := fun a => wrap_u64_nat (a * 10723151780598845931)
  rw [show ((1073741824 : Int)) = ((1073741824 : Nat) : Int) from rfl, xsh y _ hy, m1]
  have b1 : ((y ^^^ y / 1073741824) * 13787848793156543929) % 18446744073709551616 < 18446744073709551616 := Nat.mod_lt _ p64
  generalize h1 : ((y ^^^ y / 1073741824) * 13787848793156543929) % 18446744073709551616 = y1 at b1 ⊢
  rw [show ((134217728 : Int)) = ((134217728 : Nat) : Int) from rfl, xsh y1 _ b1, m2]
  have b2 : ((y1 ^^^ y1 / 134217728) * 10723151780598845931) % 18446744073709551616 < 18446744073709551616 := Nat.mod_lt _ p64
  generalize h2 : ((y1 ^^^ y1 / 134217728) * 10723151780598845931) % 18446744073709551616 = y2 at b2 ⊢
  rw [show ((2147483648 : Int)) = ((2147483648 : Nat) : Int) from rfl, xsh y2 _ b2]
  have b3 : y2 ^^^ y2 / 2147483648 < 18446744073709551616 := Nat.xor_lt_two_pow (n := 64) b2 (Nat.lt_of_le_of_lt (Nat.div_le_self _ _) b2)
  have e : mix64 y = (y2 ^^^ y2 / 2147483648) / 4294967296 := by subst h2; subst h1; rfl
  rw [e]
  omega
theorem top_lt (u : Nat) (h : u < 18446744073709551616) : (u ^^^ u / 2147483648) / 4294967296 < 4294967296 := by
  have b3 : u ^^^ u / 2147483648 < 18446744073709551616 := Nat.xor_lt_two_pow (n := 64) h (Nat.lt_of_le_of_lt (Nat.div_le_self _ _) h)
  omega
theorem mix64_lt (y : Nat) : mix64 y < 4294967296 := top_lt _ (Nat.mod_lt _ p64)
theorem gtab_get (seed i : Nat) (h : i < 256) : (tabA (gtab seed))[i]? = some (.int .u32 (mix64 ((seed + (i + 1) * 11400714819323198485) % 18446744073709551616) : Nat)) := by
  rw [tabA_get _ _ (by simp [gtab]; exact h)]
  simp [gtab]
theorem gtab_len (seed : Nat) : (gtab seed).length = 256 := by simp [gtab]
theorem gtab_lt (seed : Nat) : ∀ x ∈ gtab seed, x < 4294967296 := by
  intro x hx
  obtain ⟨i, _, rfl⟩ := List.mem_map.1 hx
  exact mix64_lt _
theorem tab_ext (cs : Array Value) (seed : Nat) (hs : cs.size = 256) (h : ∀ j, j < 256 → cs[j]? = some (.int .u32 (mix64 ((seed + (j + 1) * 11400714819323198485) % 18446744073709551616) : Nat))) : cs = tabA (gtab seed) := by
  apply Array.ext_getElem?
  intro j
  by_cases hj : j < 256
  · rw [h j hj, gtab_get seed j hj]
  · rw [Array.getElem?_eq_none (by omega), Array.getElem?_eq_none (by rw [tabA_size, gtab_len]; omega)]

theorem next_eq (seed i x : Nat) (h : (seed + i * 11400714819323198485) % 18446744073709551616 = x) :
    IntKind.u64.wrap ((x : Int) + 11400714819323198485) = (((seed + (i + 1) * 11400714819323198485) % 18446744073709551616 : Nat) : Int) := by
  have e : (x + 11400714819323198485) % 18446744073709551616 = (seed + (i + 1) * 11400714819323198485) % 18446744073709551616 := by
    rw [← h, Nat.mod_add_mod, Nat.add_mul, Nat.one_mul, Nat.add_assoc]
  rw [← e]
  exact wrap_u64_nat (x + 11400714819323198485)
theorem start_eq (seed : Nat) (hs : seed < 18446744073709551616) : seed = (seed + 0 * 11400714819323198485) % 18446744073709551616 := by
  rw [Nat.zero_mul, Nat.add_zero, Nat.mod_eq_of_lt hs]

theorem Table_c (seed : Nat) (hs : seed < 18446744073709551616) (w : World) :
    Calls Try.prog 10 #[.int .u64 seed] w fun e w' => e = .returned (.agg (tabA (gtab seed))) ∧ Below w.heap.size w w' := by
  have hz := zeroT
  go_enter Try.func10, Try.ntmps10
  go_wp2_with fail
  go_loopw [4, 8] (fun vx vi W => ∃ (i : Nat) (cs : Array Value), i ≤ 256 ∧ vi = .int .i64 i ∧ vx = .int .u64 ((seed + i * 11400714819323198485) % 18446744073709551616 : Nat) ∧ W.heap[w.heap.size + 1]? = some (.cells cs 27 (0, 0)) ∧ W.heap[w.heap.size]? = some (.cells zeros256 27 (0, 0)) ∧ cs.size = 256 ∧ (∀ j, j < 256 → ∃ x : Nat, cs[j]? = some (.int .u32 x)) ∧ (∀ j, j < i → cs[j]? = some (.int .u32 (mix64 ((seed + (j + 1) * 11400714819323198485) % 18446744073709551616) : Nat))) ∧ Below w.heap.size w W) (fun _ vi _ => 256 - (intOf vi).toNat)
  case atStart => exact ⟨0, zeros256, by omega, rfl, by rw [← start_eq seed hs], heap_alloc2_new _ _ _, heap_alloc2_old _ _ _, by simp [zeros256], fun j hj => ⟨0, by simp [zeros256, hj]⟩, fun j hj => by omega, ((Below.refl _ _).alloc (Nat.le_refl _) _).alloc (by simp) _⟩
  case round =>
    obtain ⟨i, cs, hi, rfl, hx, hb1, hb0, hcs, hall, hdone, hW⟩ := hrel
    obtain ⟨x, hxx⟩ : ∃ x, (seed + i * 11400714819323198485) % 18446744073709551616 = x := ⟨_, rfl⟩
    have hx2 : x < 18446744073709551616 := by rw [← hxx]; exact Nat.mod_lt _ p64
    rw [hxx] at hx
    subst hx
    have HX := Lib.hid hxx
    have HD := Lib.hid hdone
    have HA := Lib.hid hall
    have HB1 := Lib.hid hb1
    have HB0 := Lib.hid hb0
    have HC := Lib.hid hcs
    clear hxx hdone hall hb1 hb0 hcs
    by_cases hlt : i < 256
    · have hd : decide ((i : Int) < 256) = true := by simp; omega
      obtain ⟨x0, hx0⟩ := HA.out i hlt
      have hcell : wr.cell? ⟨w.heap.size + 1, i, none⟩ = some (.int .u32 x0) := by rw [cell_of_row _ _ _ _ _ _ HB1.out]; exact hx0
      have hfr : wr.frozen? ⟨w.heap.size + 1, i, none⟩ = false := frozen_of_row _ _ _ _ _ HB1.out
      clear hx0
      go_wp2_with fail
      have hnext := next_eq seed i x HX.out
      rw [hnext, mix_eq _ (Nat.mod_lt _ p64)]
      refine ⟨⟨i + 1, cs.setIfInBounds i (.int .u32 (mix64 ((seed + (i + 1) * 11400714819323198485) % 18446744073709551616) : Nat)), by omega, by go_num, rfl, heap_setCell_same _ _ _ _ _ _ HB1.out, ?_, by simpa using HC.out, fun j hj => ?_, fun j hj => ?_, hW.setCell (by simp) _⟩, by simp [intOf]; omega⟩
      · rw [heap_setCell_other _ _ _ _ (by simp)]; exact HB0.out
      · by_cases e : i = j
        · subst e; exact ⟨_, Array.getElem?_setIfInBounds_self_of_lt (by rw [HC.out]; exact hj)⟩
        · rw [Array.getElem?_setIfInBounds_ne e]; exact HA.out j hj
      · by_cases e : i = j
        · subst e; exact Array.getElem?_setIfInBounds_self_of_lt (by rw [HC.out]; exact hlt)
        · rw [Array.getElem?_setIfInBounds_ne e]; exact HD.out j (by omega)
    · have hd : decide ((i : Int) < 256) = false := by simp; omega
      obtain rfl : i = 256 := by omega
      have hcs2 := tab_ext cs seed HC.out HD.out
      obtain ⟨tt, htt⟩ : ∃ tt, tabA (gtab seed) = tt := ⟨_, rfl⟩
      have hb1 := HB1.out
      have hb0 := HB0.out
      rw [hcs2, htt] at hb1
      have hi2 : (Try.prog.info? 27).map (·.size) = some tt.size := by rw [← htt, tabA_size, gtab_len]; exact infoT
      have ho2 : tt.all (·.oneCell') = true := by rw [← htt]; exact tabA_one _
      have HI := Lib.hid hi2
      have HO := Lib.hid ho2
      have hs2 : zeros256.size = tt.size := by rw [← htt, tabA_size, gtab_len]; simp [zeros256]
      have HS := Lib.hid hs2
      clear hs2
      have HT := Lib.hid htt
      have HC1 := Lib.hid hb1
      have HC0 := Lib.hid hb0
      clear hi2 ho2 htt hb1 hb0 hcs2 HB1 HB0 HC HD HA HX
      go_wp2_with (first | (refine wpList_store_row rfl 27 (.tmp 2) (.tmp 32) rfl w.heap.size rfl tt zeros256 rfl 27 HC0.out HI.out HS.out HO.out ?_) | refine wpList_load_row rfl 27 (.tmp 3) rfl (w.heap.size + 1) rfl 27 _ (0, 0) _ HC1.out Try.underlying27 rfl HI.out ?_)
      (try simp only [Exit.inBlock, Exit.then])
      refine bodyPost_ret (v := .agg tt) (results_cell_row rfl _ _ w.heap.size 27 tt (0, 0) _ rfl (setRow_heap _ _ _ _ _ _ HC0.out) Try.underlying27 rfl HI.out) rfl ⟨by rw [HT.out], ?_⟩
      exact below_setRow hW (Nat.le_refl _) _

theorem next_eq2 (seed i : Nat) :
    IntKind.u64.wrap ((seed : Int) + IntKind.u64.wrap (((i : Int) + 1) * 11400714819323198485)) = (((seed + (i + 1) * 11400714819323198485) % 18446744073709551616 : Nat) : Int) := by
  have e1 : ((i : Int) + 1) * 11400714819323198485 = (((i + 1) * 11400714819323198485 : Nat) : Int) := by rw [Int.natCast_mul]; rfl
  rw [e1, wrap_u64_nat]
  have e2 : (seed + (i + 1) * 11400714819323198485 % 18446744073709551616) % 18446744073709551616 = (seed + (i + 1) * 11400714819323198485) % 18446744073709551616 := Nat.add_mod_mod _ _ _
  rw [← e2]
  exact wrap_u64_nat (seed + (i + 1) * 11400714819323198485 % 18446744073709551616)
theorem refTable_c (seed : Nat) (hs : seed < 18446744073709551616) (w : World) :
    Calls Try.prog 11 #[.int .u64 seed] w fun e w' => e = .returned (.agg (tabA (gtab seed))) ∧ Below w.heap.size w w' := by
  have hz := zeroT
  have hbd : ∀ W : World, (Instr.build 27 #[]).run Try.prog W = .ok (.agg zeros256) W := fun _ => by kernel_rfl
  have hi2 : (Try.prog.info? 27).map (·.size) = some zeros256.size := by rw [infoT]; simp [zeros256]
  have ho2 : zeros256.all (·.oneCell') = true := by decide +kernel
  have hs2 : zeros256.size = zeros256.size := rfl
  have HI2 := Lib.hid hi2
  have HO2 := Lib.hid ho2
  clear hi2 ho2 hs2
  go_enter Try.func11, Try.ntmps11
  go_wp2_with (refine wpList_store_row rfl 27 (.tmp 3) (.tmp 6) rfl (w.heap.size + 1) rfl zeros256 zeros256 rfl 27 (heap_alloc2_new _ _ _) HI2.out rfl HO2.out ?_)
  go_loopw [4] (fun vi W => ∃ (i : Nat) (cs : Array Value), i ≤ 256 ∧ vi = .int .i64 i ∧ W.heap[w.heap.size + 1]? = some (.cells cs 27 (0, 0)) ∧ W.heap[w.heap.size]? = some (.cells zeros256 27 (0, 0)) ∧ cs.size = 256 ∧ (∀ j, j < 256 → ∃ x : Nat, cs[j]? = some (.int .u32 x)) ∧ (∀ j, j < i → cs[j]? = some (.int .u32 (mix64 ((seed + (j + 1) * 11400714819323198485) % 18446744073709551616) : Nat))) ∧ Below w.heap.size w W) (fun vi _ => 256 - (intOf vi).toNat)
  case atStart => exact ⟨0, zeros256, by omega, rfl, setRow_heap _ _ _ _ _ _ (heap_alloc2_new _ _ _), by rw [setRow_other _ _ _ _ (by simp)]; exact heap_alloc2_old _ _ _, by simp [zeros256], fun j hj => ⟨0, by simp [zeros256, hj]⟩, fun j hj => by omega, below_setRow (((Below.refl _ _).alloc (Nat.le_refl _) _).alloc (by simp) _) (by simp) _⟩
  case round =>
    obtain ⟨i, cs, hi, rfl, hb1, hb0, hcs, hall, hdone, hW⟩ := hrel
    have HD := Lib.hid hdone
    have HA := Lib.hid hall
    have HB1 := Lib.hid hb1
    have HB0 := Lib.hid hb0
    have HC := Lib.hid hcs
    clear hdone hall hb1 hb0 hcs
    by_cases hlt : i < 256
    · have hd : decide ((i : Int) < 256) = true := by simp; omega
      obtain ⟨x0, hx0⟩ := HA.out i hlt
      have hcell : wr.cell? ⟨w.heap.size + 1, i, none⟩ = some (.int .u32 x0) := by rw [cell_of_row _ _ _ _ _ _ HB1.out]; exact hx0
      have hfr : wr.frozen? ⟨w.heap.size + 1, i, none⟩ = false := frozen_of_row _ _ _ _ _ HB1.out
      clear hx0
      go_wp2_with fail
      rw [next_eq2, mix_eq _ (Nat.mod_lt _ p64)]
      refine ⟨⟨i + 1, cs.setIfInBounds i (.int .u32 (mix64 ((seed + (i + 1) * 11400714819323198485) % 18446744073709551616) : Nat)), by omega, by go_num, heap_setCell_same _ _ _ _ _ _ HB1.out, ?_, by simpa using HC.out, fun j hj => ?_, fun j hj => ?_, hW.setCell (by simp) _⟩, by simp [intOf]; omega⟩
      · rw [heap_setCell_other _ _ _ _ (by simp)]; exact HB0.out
      · by_cases e : i = j
        · subst e; exact ⟨_, Array.getElem?_setIfInBounds_self_of_lt (by rw [HC.out]; exact hj)⟩
        · rw [Array.getElem?_setIfInBounds_ne e]; exact HA.out j hj
      · by_cases e : i = j
        · subst e; exact Array.getElem?_setIfInBounds_self_of_lt (by rw [HC.out]; exact hlt)
        · rw [Array.getElem?_setIfInBounds_ne e]; exact HD.out j (by omega)
    · have hd : decide ((i : Int) < 256) = false := by simp; omega
      obtain rfl : i = 256 := by omega
      have hcs2 := tab_ext cs seed HC.out HD.out
      obtain ⟨tt, htt⟩ : ∃ tt, tabA (gtab seed) = tt := ⟨_, rfl⟩
      have hb1 := HB1.out
      have hb0 := HB0.out
      rw [hcs2, htt] at hb1
      have hi2 : (Try.prog.info? 27).map (·.size) = some tt.size := by rw [← htt, tabA_size, gtab_len]; exact infoT
      have ho2 : tt.all (·.oneCell') = true := by rw [← htt]; exact tabA_one _
      have HI := Lib.hid hi2
      have HO := Lib.hid ho2
      have hs2 : zeros256.size = tt.size := by rw [← htt, tabA_size, gtab_len]; simp [zeros256]
      have HS := Lib.hid hs2
      clear hs2
      have HT := Lib.hid htt
      have HC1 := Lib.hid hb1
      have HC0 := Lib.hid hb0
      clear hi2 ho2 htt hb1 hb0 hcs2 HB1 HB0 HC HD HA
      go_wp2_with (first | (refine wpList_store_row rfl 27 (.tmp 2) (.tmp 36) rfl w.heap.size rfl tt zeros256 rfl 27 HC0.out HI.out HS.out HO.out ?_) | refine wpList_load_row rfl 27 (.tmp 3) rfl (w.heap.size + 1) rfl 27 _ (0, 0) _ HC1.out Try.underlying27 rfl HI.out ?_)
      (try simp only [Exit.inBlock, Exit.then])
      refine bodyPost_ret (v := .agg tt) (results_cell_row rfl _ _ w.heap.size 27 tt (0, 0) _ rfl (setRow_heap _ _ _ _ _ _ HC0.out) Try.underlying27 rfl HI.out) rfl ⟨by rw [HT.out], ?_⟩
      exact below_setRow hW (Nat.le_refl _) _

end Go.Proofs.Ytbckibjpaiealaa.F
