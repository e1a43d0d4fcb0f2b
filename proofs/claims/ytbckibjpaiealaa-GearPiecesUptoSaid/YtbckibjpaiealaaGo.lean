/- A cutter made; a row of bytes cloned. -/
import Derived.Test.YtbckibjpaiealaaGf
import Derived.Laws.Tables
import Derived.Lib.SliceRun
set_option linter.unusedVariables false
set_option linter.unusedSimpArgs false
namespace Go.Proofs.Ytbckibjpaiealaa.F
open Go.RowKit Go.Proofs.YtbckibjpaiealaaW.PrintWords

theorem splice_get (off : Nat) : ∀ (l : List Value) (m : Nat) (cs : Array Value) (k : Nat),
    ((l.zipIdx m).foldl (fun cs (x : Value × Nat) => cs.setIfInBounds (off + x.2) x.1) cs)[k]? = if off + m ≤ k ∧ k < off + m + l.length ∧ k < cs.size then l[k - (off + m)]? else cs[k]?
  | [], m, cs, k => by rw [if_neg (by simp; omega)]; rfl
  | v :: l, m, cs, k => by
    rw [List.zipIdx_cons, List.foldl_cons, splice_get off l (m + 1) _ k]
    simp only [Array.size_setIfInBounds, List.length_cons]
    by_cases h1 : off + m = k
    · subst h1
      rw [if_neg (by omega)]
      by_cases h2 : off + m < cs.size
      · rw [if_pos (by omega)]; simp [h2]
      · rw [if_neg (by omega)]; simp [h2]
    · by_cases h2 : off + m ≤ k ∧ k < off + m + (l.length + 1) ∧ k < cs.size
      · rw [if_pos (by omega), if_pos h2]
        obtain ⟨j, rfl⟩ : ∃ j, k = off + m + (j + 1) := ⟨k - (off + m) - 1, by omega⟩
        rw [show off + m + (j + 1) - (off + m) = j + 1 by omega, show off + m + (j + 1) - (off + (m + 1)) = j by omega]
        rfl
      · rw [if_neg (by omega), if_neg h2, Array.getElem?_setIfInBounds_ne h1]
theorem splice_arr (off : Nat) (v cs : Array Value) (k : Nat) :
    (v.zipIdx.foldl (fun cs (x : Value × Nat) => cs.setIfInBounds (off + x.2) x.1) cs)[k]? = if off ≤ k ∧ k < off + v.size ∧ k < cs.size then v[k - off]? else cs[k]? := by
  have h := splice_get off v.toList 0 cs k
  have e : v.zipIdx.foldl (fun cs (x : Value × Nat) => cs.setIfInBounds (off + x.2) x.1) cs = (v.toList.zipIdx 0).foldl (fun cs (x : Value × Nat) => cs.setIfInBounds (off + x.2) x.1) cs := by
    rw [← Array.foldl_toList, Array.toList_zipIdx]
  rw [e, h]
  simp
theorem zeros_gen : ∃ z : List Nat, List.replicate 256 0 = z ∧ z.length = 256 := ⟨_, rfl, List.length_replicate⟩
def zC : Array Value := cuA 0 0 0 (List.replicate 256 0) (.slice none 0 0) 0 false
theorem built_eq : ∀ parts, Try.prog.built 54 parts = Instr.fill (fun i => (#[(0, 3), (3, 256), (259, 1), (260, 1), (261, 1)] : Array (Nat × Nat))[i]?) zC parts := fun _ => by kernel_rfl
theorem zC_size : zC.size = 262 := by kernel_rfl
theorem splice_size (off : Nat) (v cs : Array Value) : (v.zipIdx.foldl (fun cs (x : Value × Nat) => cs.setIfInBounds (off + x.2) x.1) cs).size = cs.size := by
  rw [← Array.foldl_toList]
  generalize v.zipIdx.toList = l
  induction l generalizing cs with
  | nil => rfl
  | cons x l ih => rw [List.foldl_cons, ih]; simp
theorem built_cutter (mn av mx : Nat) (tb : List Nat) (ht : tb.length = 256) :
    Try.prog.built 54 [(0, .agg #[.int .i64 mn, .int .i64 av, .int .i64 mx]), (1, .agg (tabA tb))] = some (cuA mn av mx tb (.slice none 0 0) 0 false) := by
  rw [built_eq]
  have s1 : (Value.agg #[.int .i64 (mn : Int), .int .i64 (av : Int), .int .i64 (mx : Int)]).cells = #[.int .i64 (mn : Int), .int .i64 (av : Int), .int .i64 (mx : Int)] := rfl
  have s2 : (Value.agg (tabA tb)).cells = tabA tb := rfl
  have s3 : (tabA tb).size = 256 := by rw [tabA_size, ht]
  simp only [Instr.fill, s1, s2]
  simp only [show (#[(0, 3), (3, 256), (259, 1), (260, 1), (261, 1)] : Array (Nat × Nat))[0]? = some (0, 3) from rfl, show (#[(0, 3), (3, 256), (259, 1), (260, 1), (261, 1)] : Array (Nat × Nat))[1]? = some (3, 256) from rfl]
  rw [if_neg (by rw [zC_size]; simp), if_neg (by rw [splice_size, zC_size, s3]; simp)]
  congr 1
  apply Array.ext_getElem?
  intro k
  rw [splice_arr, splice_size, splice_arr, s3, zC_size]
  have e3 : (#[Value.int .i64 (mn : Int), .int .i64 (av : Int), .int .i64 (mx : Int)] : Array Value).size = 3 := rfl
  rw [e3]
  unfold zC
  obtain ⟨z, hz, hzl⟩ := zeros_gen
  rw [hz]
  unfold cuA tabA
  simp only [List.getElem?_toArray]
  by_cases h1 : k < 3
  · rw [if_neg (by omega), if_pos (by omega)]
    rw [List.getElem?_append_left (by simp; omega), List.getElem?_append_left (by simpa using h1)]
    simp
  · by_cases h2 : k < 259
    · rw [if_pos (by omega)]
      rw [List.getElem?_append_left (by simp [ht]; omega), List.getElem?_append_right (by simpa using h1)]
      simp
    · rw [if_neg (by omega), if_neg (by omega)]
      rw [List.getElem?_append_right (by simp [hzl]; omega), List.getElem?_append_right (by simp [ht]; omega)]
      simp [ht, hzl]

theorem Clone_c (A : Option Addr) (c : Nat) (xs : List Nat) (W : World) (hr : RN .u8 W A xs) (hc : xs.length ≤ c) (hl : xs.length ≤ 140737488355328) (hA : A = none → c = 0) :
    Calls Try.prog 25 #[.slice A xs.length c] W fun e w' => ∃ v, e = .returned v ∧ OwnN .u8 5 w' W.heap.size v xs ∧ Below W.heap.size W w' := by
  have hm := hr.max
  have HR := Lib.hid hr
  have qS : ∀ (w : World) (a : Option Addr) (n c : Nat), Sem.run Try.prog (binOp BinOp.eql 32 (.slice a n c) (.slice none 0 0)) w = Result.ok (.bool a.isNone) w := fun w a n c => Go.Lib.run_eql_slice_nil w 32 5 a n c 0 0 Try.underlying32
  cases A with
  | none =>
    have h0 : xs = [] := by
      cases xs with
      | nil => rfl
      | cons x xs => obtain ⟨ad, h, _⟩ := hr.at 0 (by simp); cases h
    subst h0
    obtain rfl := hA rfl
    go_enter Try.func25, Try.ntmps25
    go_wp2_with fail
    go_ret
    exact ⟨_, rfl, own_nil _ _ _ _, Below.refl _ _⟩
  | some ad =>
    have hO : OwnN .u8 5 (W.alloc (.cells #[] 5)) W.heap.size (.slice (some ⟨W.heap.size, 0, none⟩) 0 0) [] := by
      have := own_lit_of (enc := encN .u8) W W.heap.size 5 [] (by simp) (by simp)
      simp only [List.map_nil, List.length_nil, encs] at this
      exact this
    have HO := Lib.hid hO
    have hB : Below W.heap.size W (W.alloc (.cells #[] 5)) := (Below.refl _ _).alloc (Nat.le_refl _) _
    have HR2 := Lib.hid (hr.below hB)
    clear hO
    go_enter Try.func25, Try.ntmps25
    go_wp2_with (at_builtin; refine append_NN W.heap.size rfl (.tmp 5) (.tmp 6) 32 5 .u8 1 rfl Try.underlying32 info_u8 (by decide) (.slice (some ⟨W.heap.size, 0, none⟩) 0 0) [] xs (some ad) c rfl rfl HO.out HR2.out (by simp) (by simpa using hl) ?_; intro v1 w1 ho1 hg1 hat1)
    go_ret
    refine ⟨_, rfl, ho1, ?_⟩
    have hs := hg1.size
    exact ⟨hg1.os, hg1.tape, hg1.output, Nat.le_trans hB.size hs, fun k hk => (hg1.block k (Nat.lt_of_lt_of_le hk hB.size) (by simp [Value.ownBlock]; omega)).trans (hB.block k hk)⟩
end Go.Proofs.Ytbckibjpaiealaa.F
