/- Part 9 of the proof: TK2. -/
import Derived.Test.YtbcamfbbooggfaaGreatQ03
import Derived.Test.YtbcamfbbooggfaaGreatQ08
import Derived.Laws.Tables
import Derived.Test.YtbcamfbbooggfaaGreatQ06
import Derived.Test.YtbcamfbbooggfaaGreatQ07
import Derived.Lib.AppendZeros
import Derived.Lib.AppendZerosOnto
import Derived.Maps.AppendAt
import Derived.Laws.CopyOwn
import Derived.Great.BuildSlice
import Derived.Deep.MidRow
import Derived.Deep.Cut
import Derived.Deep.CutRange
import Derived.Deep.DrawnRows
import Derived.Deep.AppendLies

/- Plain: a chunk's sum, the table, a container's bytes. -/
set_option linter.unusedVariables false
set_option linter.unusedSimpArgs false
namespace Go.Proofs.YtbcamfbbooggfaaGreat.F
open Go.RowKit Go.Proofs.YtbcamfbbooggfaaGreatW.PrintWords

theorem shaB_lt (p : List Nat) (i : Nat) : shaB p i < 256 := Nat.mod_lt _ (by omega)
/-- A text's sum: its 32 bytes. -/
def sumN (p : List Nat) : List Nat := (List.range 32).map (shaB p)
theorem sumN_len (p : List Nat) : (sumN p).length = 32 := by simp [sumN]
theorem sumN_lt (p : List Nat) : ∀ x ∈ sumN p, x < 256 := fun x hx => by
  obtain ⟨i, _, rfl⟩ := List.mem_map.1 hx
  exact shaB_lt p i
theorem shaA_eq (p : List Nat) : shaA p = ((sumN p).map (encN .u8)).toArray := by
  unfold shaA tabK sumN
  rw [List.map_map]
  rfl
/-- A chunk's row in the table. -/
def rowN (p : List Nat) : List Nat := sumN p ++ bigN 2 p.length
theorem rowN_len (p : List Nat) : (rowN p).length = 34 := by simp [rowN, sumN_len, bigN_len]
theorem rowN_lt (p : List Nat) : ∀ x ∈ rowN p, x < 256 := fun x hx => by
  rcases List.mem_append.1 hx with h | h
  · exact sumN_lt p x h
  · exact bigN_lt 2 _ x h
/-- The table's bytes. -/
def tableN (L : List (List Nat)) : List Nat := L.flatMap rowN
theorem tableN_snoc (L : List (List Nat)) (p : List Nat) : tableN (L ++ [p]) = tableN L ++ rowN p := by simp [tableN]
theorem tableN_len (L : List (List Nat)) : (tableN L).length = 34 * L.length := by
  induction L with
  | nil => rfl
  | cons p r ih =>
    rw [show tableN (p :: r) = rowN p ++ tableN r from rfl, List.length_append, ih, rowN_len, List.length_cons]
    omega
theorem tableN_lt (L : List (List Nat)) : ∀ x ∈ tableN L, x < 256 := fun x hx => by
  obtain ⟨p, _, h⟩ := List.mem_flatMap.1 hx
  exact rowN_lt p x h
theorem tableN_take (L : List (List Nat)) (i : Nat) (h : i < L.length) : tableN (L.take (i + 1)) = tableN (L.take i) ++ rowN L[i] := by
  rw [List.take_succ_eq_append_getElem h, tableN_snoc]
/-- BIN1. -/
def binN : List Nat := [66, 73, 78, 49]
/-- The head's first 18 bytes. -/
def head18 (id : Nat) (L : List (List Nat)) : List Nat := binN ++ bigN 4 id ++ bigN 2 L.length ++ bigN 4 L.flatten.length ++ bigN 4 (crcMore 0 (tableN L))
theorem head18_len (id : Nat) (L : List (List Nat)) : (head18 id L).length = 18 := by simp [head18, binN, bigN_len]
theorem app_lt {a b : List Nat} (h1 : ∀ x ∈ a, x < 256) (h2 : ∀ x ∈ b, x < 256) : ∀ x ∈ a ++ b, x < 256 := fun x hx => (List.mem_append.1 hx).elim (h1 x) (h2 x)
theorem binN_lt : ∀ x ∈ binN, x < 256 := by decide
theorem head18_lt (id : Nat) (L : List (List Nat)) : ∀ x ∈ head18 id L, x < 256 := app_lt (app_lt (app_lt (app_lt binN_lt (bigN_lt _ _)) (bigN_lt _ _)) (bigN_lt _ _)) (bigN_lt _ _)
def head22 (id : Nat) (L : List (List Nat)) : List Nat := head18 id L ++ bigN 4 (crcMore 0 (head18 id L))
theorem head22_len (id : Nat) (L : List (List Nat)) : (head22 id L).length = 22 := by simp [head22, head18_len, bigN_len]
/-- What stands ahead of the last zeros. -/
def bodyN (id : Nat) (L : List (List Nat)) : List Nat := head22 id L ++ List.replicate 106 0 ++ L.flatten ++ tableN L
theorem bodyN_len (id : Nat) (L : List (List Nat)) : (bodyN id L).length = 128 + L.flatten.length + 34 * L.length := by
  unfold bodyN
  simp only [List.length_append, head22_len, List.length_replicate, tableN_len]
def padZ (n : Nat) : Nat := (128 - n % 128) % 128
/-- A container's bytes. -/
def bytesN (id : Nat) (L : List (List Nat)) : List Nat := bodyN id L ++ List.replicate (padZ (bodyN id L).length) 0
theorem bytesN_len (id : Nat) (L : List (List Nat)) : (bytesN id L).length = 128 + L.flatten.length + 34 * L.length + padZ (128 + L.flatten.length + 34 * L.length) := by
  unfold bytesN
  rw [List.length_append, List.length_replicate, bodyN_len]
end Go.Proofs.YtbcamfbbooggfaaGreat.F

/- A slot is built. -/
set_option linter.unusedVariables false
set_option linter.unusedSimpArgs false
namespace Go.Proofs.YtbcamfbbooggfaaGreat.F
open Go.RowKit Go.Proofs.YtbcamfbbooggfaaGreatW.PrintWords

theorem splice_get (off : Nat) : ∀ (l : List Value) (m : Nat) (cs : Array Value) (k : Nat),
    ((l.zipIdx m).foldl (fun cs (x : Value × Nat) => cs.setIfInBounds (off + x.2) x.1) cs)[k]? = if off + m ≤ k ∧ k < off + m + l.length ∧ k < cs.size then l[k - (off + m)]? else cs[k]?
  | [], m, cs, k => by rw [if_neg (by simp; omega)]; rfl
  | v :: l, m, cs, k => by
    rw [List.zipIdx_cons, List.foldl_cons, splice_get off l (m + 1) _ k]
    simp only [Array.size_setIfInBounds, List.length_cons]
    by_cases h1 : off + m = k
    · subst h1
      rw [if_neg (by omega)]
      by_cases h2 : off + m < cs.size
      · rw [if_pos (by omega)]; simp [h2]
      · rw [if_neg (by omega)]; simp [h2]
    · by_cases h2 : off + m ≤ k ∧ k < off + m + (l.length + 1) ∧ k < cs.size
      · rw [if_pos (by omega), if_pos h2]
        obtain ⟨j, rfl⟩ : ∃ j, k = off + m + (j + 1) := ⟨k - (off + m) - 1, by omega⟩
        rw [show off + m + (j + 1) - (off + m) = j + 1 by omega, show off + m + (j + 1) - (off + (m + 1)) = j by omega]
        rfl
      · rw [if_neg (by omega), if_neg h2, Array.getElem?_setIfInBounds_ne h1]
theorem splice_arr (off : Nat) (v cs : Array Value) (k : Nat) :
    (v.zipIdx.foldl (fun cs (x : Value × Nat) => cs.setIfInBounds (off + x.2) x.1) cs)[k]? = if off ≤ k ∧ k < off + v.size ∧ k < cs.size then v[k - off]? else cs[k]? := by
  have h := splice_get off v.toList 0 cs k
  have e : v.zipIdx.foldl (fun cs (x : Value × Nat) => cs.setIfInBounds (off + x.2) x.1) cs = (v.toList.zipIdx 0).foldl (fun cs (x : Value × Nat) => cs.setIfInBounds (off + x.2) x.1) cs := by
    rw [← Array.foldl_toList, Array.toList_zipIdx]
  rw [e, h]
  simp
theorem splice_size (off : Nat) (v cs : Array Value) : (v.zipIdx.foldl (fun cs (x : Value × Nat) => cs.setIfInBounds (off + x.2) x.1) cs).size = cs.size := by
  rw [← Array.foldl_toList]
  generalize v.zipIdx.toList = l
  induction l generalizing cs with
  | nil => rfl
  | cons x l ih => rw [List.foldl_cons, ih]; simp
/-- A slot's cells before it is filled. -/
def zeroS : Array Value := ((List.replicate 32 0).map (encN .u8) ++ [Value.int .i64 0, Value.int .i64 0]).toArray
theorem zeroS_size : zeroS.size = 34 := by kernel_rfl
theorem zeroS_eq : ∀ W : World, Sem.run Tryz.prog (zeroValue 117) W = .ok (.agg zeroS) W := fun _ => by kernel_rfl
theorem infoS : (Tryz.prog.info? 117).map (·.size) = some 34 := by kernel_rfl
theorem slot_eq : ∀ parts, Tryz.prog.built 117 parts = Instr.fill (fun i => (#[(0, 32), (32, 1), (33, 1)] : Array (Nat × Nat))[i]?) zeroS parts := fun _ => by kernel_rfl
theorem built_slot (q : List Nat) (x y : Int) (hq : q.length = 32) :
    Tryz.prog.built 117 [(0, .agg (q.map (encN .u8)).toArray), (1, .int .i64 x), (2, .int .i64 y)] = some (q.map (encN .u8) ++ [Value.int .i64 x, Value.int .i64 y]).toArray := by
  rw [slot_eq]
  have s1 : (Value.agg (q.map (encN .u8)).toArray).cells = (q.map (encN .u8)).toArray := rfl
  have s2 : (Value.int .i64 x).cells = #[.int .i64 x] := rfl
  have s3 : (Value.int .i64 y).cells = #[.int .i64 y] := rfl
  have s4 : (q.map (encN .u8)).toArray.size = 32 := by simp [hq]
  simp only [Instr.fill, s1, s2, s3]
  simp only [show (#[(0, 32), (32, 1), (33, 1)] : Array (Nat × Nat))[0]? = some (0, 32) from rfl, show (#[(0, 32), (32, 1), (33, 1)] : Array (Nat × Nat))[1]? = some (32, 1) from rfl, show (#[(0, 32), (32, 1), (33, 1)] : Array (Nat × Nat))[2]? = some (33, 1) from rfl]
  rw [if_neg (by rw [zeroS_size, s4]; simp), if_neg (by rw [splice_size, zeroS_size]; simp), if_neg (by rw [splice_size, splice_size, zeroS_size]; simp)]
  congr 1
  apply Array.ext_getElem?
  intro k
  rw [splice_arr, splice_size, splice_size, splice_arr, splice_size, splice_arr, zeroS_size, s4]
  simp only [List.getElem?_toArray]
  have e1 : (#[Value.int .i64 x] : Array Value).size = 1 := rfl
  have e2 : (#[Value.int .i64 y] : Array Value).size = 1 := rfl
  rw [e1, e2]
  by_cases h3 : k = 33
  · subst h3
    rw [if_pos (by omega), List.getElem?_append_right (by simp [hq])]
    simp [hq]
  · rw [if_neg (by omega)]
    by_cases h2 : k = 32
    · subst h2
      rw [if_pos (by omega), List.getElem?_append_right (by simp [hq])]
      simp [hq]
    · rw [if_neg (by omega)]
      by_cases h1 : k < 32
      · rw [if_pos (by omega), List.getElem?_append_left (by simp [hq]; omega)]
        simp
      · rw [if_neg (by omega), List.getElem?_eq_none (by simp [hq]; omega), Array.getElem?_eq_none (by rw [zeroS_size]; omega)]
end Go.Proofs.YtbcamfbbooggfaaGreat.F

/- Rows of bytes and of slots: cloned, grown, laid one behind the other. -/
set_option linter.unusedVariables false
set_option linter.unusedSimpArgs false
namespace Go.Proofs.YtbcamfbbooggfaaGreat.F
open Go.RowKit Go.Proofs.YtbcamfbbooggfaaGreatW.PrintWords

/-- A row of the call's own reads as its cells. -/
theorem RV.ofOwn {W : World} {base : Nat} {t : TypeId} {k : Nat} {v : Value} {n : Nat} {xs : List Value} (h : W.ownsRow base t k v n xs) :
    ∃ A c, v = .slice A n c ∧ n ≤ c ∧ RV t W A n xs ∧ (0 < n → ∃ g, A = some ⟨g, 0, none⟩ ∧ base ≤ g) := by
  rcases h.2 with ⟨e, h0⟩ | ⟨g, cap, cur, e, hb, hh, hc, hm, hs, ht⟩
  · subst h0
    exact ⟨none, 0, e, Nat.le_refl _, RV.nil _ _ _ _, fun h => by omega⟩
  · refine ⟨_, _, e, hc, ⟨by unfold maxLen at hm; omega, fun hp => ⟨g, 0, rfl, ⟨cur, (0, 0), hh⟩, fun j u hu => ?_⟩⟩, fun _ => ⟨g, rfl, hb⟩⟩
    subst e
    have h2 := h.cells (g := g) rfl j u hu
    rwa [Addr.add_lit] at h2
theorem RV.rn {W : World} {A : Option Addr} {xs : List Nat} (h : RV 5 W A xs.length (xs.map (encN .u8))) : RN .u8 W A xs := by
  refine Kd.C_of_reads (d := 0) ⟨rfl, h.1, fun hp => ?_⟩
  obtain ⟨g, o, e, _, hc⟩ := h.2 hp
  refine ⟨_, e, fun j hj => ?_⟩
  rw [Addr.add_lit]
  exact hc j _ (by simp [List.getD_eq_getElem?_getD, hj])
theorem RV.ofOwnN {W : World} {base : Nat} {v : Value} {xs : List Nat} (h : OwnN .u8 5 W base v xs) : ∃ A c, v = .slice A xs.length c ∧ xs.length ≤ c ∧ RV 5 W A xs.length (xs.map (encN .u8)) ∧ (0 < xs.length → ∃ g, A = some ⟨g, 0, none⟩ ∧ base ≤ g) := RV.ofOwn h
theorem infoS3 : (Tryz.prog.info? 117).map (fun i => (i.zero, i.size, i.bytes)) = some (some (.agg zeroS), 34, 48) := by kernel_rfl
theorem infoS2 : (Tryz.prog.info? 117).map (fun i => (i.zero, i.size)) = some (some (.agg zeroS), 34) := by kernel_rfl
theorem slCells_one (s : Sl) : ∀ u ∈ slCells s, u.oneCell' = true := fun u hu => by
  unfold slCells at hu
  simp only [List.mem_append, List.mem_map, List.mem_cons, List.not_mem_nil, or_false] at hu
  rcases hu with ⟨x, _, rfl⟩ | rfl | rfl <;> rfl
theorem flatS_one (l : List Sl) : ∀ u ∈ flatS l, u.oneCell' = true := fun u hu => by
  obtain ⟨s, _, h⟩ := List.mem_flatMap.1 hu
  exact slCells_one s u h
theorem slots_32 (at' : Nat) : ∀ L : List (List Nat), ∀ s ∈ slotsFrom sumN at' L, s.1.length = 32
  | [], s, h => by cases h
  | p :: r, s, h => by
    rcases List.mem_cons.1 h with rfl | h
    · exact sumN_len p
    · exact slots_32 _ r s h
theorem flat_slots_len (at' : Nat) (L : List (List Nat)) : (flatS (slotsFrom sumN at' L)).length = L.length * 34 := by rw [flatS_len (slots_32 at' L), slotsFrom_len]
theorem own_nilV (W : World) (base : Nat) (t : TypeId) (k : Nat) : W.ownsRow base t k (.slice none 0 0) 0 [] := ⟨by simp, .inl ⟨rfl, rfl⟩⟩
theorem qnil_slot : ∀ (w : World) (a : Option Addr) (n c : Nat), Sem.run Tryz.prog (binOp BinOp.eql 105 (.slice a n c) (.slice none 0 0)) w = Result.ok (.bool a.isNone) w := fun w a n c => Go.Lib.run_eql_slice_nil w 105 117 a n c 0 0 Tryz.underlying105
set_option maxRecDepth 20000 in
set_option maxHeartbeats 4000000 in
theorem CloneS_c (A : Option Addr) (c n : Nat) (F : List Value) (w : World) (hr : RV 117 w A n F) (hF : F.length = n * 34) (hone : ∀ u ∈ F, u.oneCell' = true) (hn : n ≤ 100000) :
    Calls Tryz.prog 35 #[.slice A n c] w fun e w' => ∃ v, e = .returned v ∧ w'.ownsRow w.heap.size 117 34 v n F ∧ Below w.heap.size w w' := by
  have hmx := hr.1
  have qN := qnil_slot
  cases A with
  | none =>
    have h0 : n = 0 := by
      rcases Nat.eq_zero_or_pos n with h | h
      · exact h
      · obtain ⟨g, o, e, _⟩ := hr.2 h
        cases e
    subst h0
    have hF0 : F = [] := List.eq_nil_of_length_eq_zero (by simpa using hF)
    subst hF0
    go_enter Tryz.func35, Tryz.ntmps35
    go_wp2_with fail
    go_ret
    exact ⟨.slice none 0 0, rfl, own_nilV _ _ _ _, Below.refl _ _⟩
  | some ad =>
    obtain ⟨i0, hi0, hz0, hz1, hz2⟩ := info_parts infoS3
    have hbE : Below w.heap.size w (w.alloc (.cells #[] 117)) := (Below.refl _ _).alloc (Nat.le_refl _) _
    have hE : (w.alloc (.cells #[] 117)).ownsRow w.heap.size 117 34 (.slice (some ⟨w.heap.size, 0, none⟩) 0 0) 0 [] := by
      have h := World.ownsRow_lit (base := w.heap.size) (e := 117) (size := 34) w #[] 0 (by simp) (by simp [maxLen]) (by simp)
      simpa using h
    have hsrc : ∀ j v, F[j]? = some v → (w.alloc (.cells #[] 117)).cell? (ad.add j) = some v := fun j v hv => by
      have hp : 0 < n := by
        rcases Nat.eq_zero_or_pos n with h | h
        · subst h
          have h0 : F = [] := List.eq_nil_of_length_eq_zero (by simpa using hF)
          rw [h0] at hv
          simp at hv
        · exact h
      obtain ⟨g, o, e, ⟨cs, x, hg⟩, hc⟩ := hr.2 hp
      cases e
      rw [Addr.add_lit, hbE.cell (p := ⟨g, o + j, none⟩) (Array.getElem?_eq_some_iff.1 hg).1]
      exact hc j v hv
    have hzz : zeroS.size = 34 := zeroS_size
    have HZ := Lib.hid hzz
    have HE := Lib.hid hE
    have HBE := Lib.hid hbE
    have HSRC := Lib.hid hsrc
    have HLEN := Lib.hid hF
    have HONE := Lib.hid hone
    clear hE hbE hsrc hF hone hr hzz
    go_enter Tryz.func35, Tryz.ntmps35
    go_wp2_with (at_builtin; refine wpList_append_own_at (w.alloc (.cells #[] 117)) rfl (.tmp 5) (.tmp 6) 105 rfl w.heap.size 117 i0 (.agg zeroS) 34 48 Tryz.underlying105 hi0 hz0 hz1 hz2 HZ.out (by decide) (.slice (some ⟨w.heap.size, 0, none⟩) 0 0) 0 [] rfl HE.out ad n c F rfl HLEN.out HSRC.out HONE.out (by simp only [maxLen]; omega) (by omega) (by simp) ?_; intro v3 w3 ho3 hg3 _ _; rw [Nat.zero_add, List.nil_append] at ho3)
    have hb3 : Below w.heap.size w w3 := HBE.out.grown hg3 (by simp) (fun j ej => own_base HE.out j ej)
    have HOR := Lib.hid ho3
    have HB3 := Lib.hid hb3
    clear hb3 ho3 hg3
    go_wp2_with fail
    go_ret
    exact ⟨_, rfl, HOR.out, HB3.out⟩
set_option maxRecDepth 20000 in
theorem CloneB_c (A : Option Addr) (c : Nat) (xs : List Nat) (W : World) (hr : RN .u8 W A xs) (hl : xs.length ≤ 140737488355328) (hc0 : xs.length ≤ c) :
    Calls Tryz.prog 44 #[.slice A xs.length c] W fun e w' => ∃ v, e = .returned v ∧ OwnN .u8 5 w' W.heap.size v xs ∧ Below W.heap.size W w' := by
  have hm := hr.max
  have HR := Lib.hid hr
  have qS : ∀ (w : World) (a : Option Addr) (n c : Nat), Sem.run Tryz.prog (binOp BinOp.eql 25 (.slice a n c) (.slice none 0 0)) w = Result.ok (.bool a.isNone) w := fun w a n c => Go.Lib.run_eql_slice_nil w 25 5 a n c 0 0 Tryz.underlying25
  cases A with
  | none =>
    have h0 : xs = [] := by
      cases xs with
      | nil => rfl
      | cons x xs => obtain ⟨ad, h, _⟩ := hr.at 0 (by simp); cases h
    subst h0
    go_enter Tryz.func44, Tryz.ntmps44
    go_wp2_with fail
    go_ret
    exact ⟨_, rfl, own_nil _ _ _ _, Below.refl _ _⟩
  | some ad =>
    have hO : OwnN .u8 5 (W.alloc (.cells #[] 5)) W.heap.size (.slice (some ⟨W.heap.size, 0, none⟩) 0 0) [] := by
      have := own_lit_of (enc := encN .u8) W W.heap.size 5 [] (by simp) (by simp)
      simp only [List.map_nil, List.length_nil, encs] at this
      exact this
    have HO := Lib.hid hO
    have hB : Below W.heap.size W (W.alloc (.cells #[] 5)) := (Below.refl _ _).alloc (Nat.le_refl _) _
    have HR2 := Lib.hid (hr.below hB)
    clear hO
    go_enter Tryz.func44, Tryz.ntmps44
    go_wp2_with (at_builtin; refine append_NN W.heap.size rfl (.tmp 5) (.tmp 6) 25 5 .u8 1 rfl Tryz.underlying25 info_u8 (by decide) (.slice (some ⟨W.heap.size, 0, none⟩) 0 0) [] xs (some ad) c rfl rfl HO.out HR2.out (by simp) (by simpa using hl) ?_; intro v1 w1 ho1 hg1 hat1)
    go_ret
    refine ⟨_, rfl, ho1, ?_⟩
    have hs := hg1.size
    exact ⟨hg1.os, hg1.tape, hg1.output, Nat.le_trans hB.size hs, fun k hk => (hg1.block k (Nat.lt_of_lt_of_le hk hB.size) (by simp [Value.ownBlock]; omega)).trans (hB.block k hk)⟩
set_option maxRecDepth 20000 in
set_option maxHeartbeats 4000000 in
theorem GrowB_c (n : Nat) (w : World) (hn : n ≤ 70000000000000) :
    Calls Tryz.prog 76 #[.slice none 0 0, .int .i64 n] w fun e w' => ∃ v, e = .returned v ∧ OwnN .u8 5 w' w.heap.size v [] ∧ (n = 0 → v = .slice none 0 0) ∧ Below w.heap.size w w' := by
  obtain ⟨i0, hi0, hz0, hz1, hz2⟩ := info_parts info_u8
  by_cases h0 : n = 0
  · subst h0
    go_enter Tryz.func76, Tryz.ntmps76
    go_wp2_with fail
    go_ret
    exact ⟨_, rfl, OwnN.nil _ _ _ _, fun _ => rfl, Below.refl _ _⟩
  · have d0 : decide ((n : Int) < 0) = false := decide_eq_false (by omega)
    have d1 : decide ((0 : Int) < n) = true := decide_eq_true (by omega)
    have d2 : decide (0 < n) = true := decide_eq_true (by omega)
    have hrun := fun ty => Go.Lib.run_append_nil_zeros w 25 3 ty 5 i0 _ .i64 .i64 Tryz.underlying25 Tryz.underlying3 hi0 hz0 n (by omega) (by rw [hz1]; omega) (by omega) (by rw [hz2]; omega)
    have hge := grownCap_ge w n 0 5
    have hle := grownCap_le_maxLen w n 0 5 (by unfold maxLen; omega)
    obtain ⟨G, hG⟩ : ∃ G, grownCap w n 0 5 = G := ⟨_, rfl⟩
    rw [hG] at hge hle
    simp only [hG] at hrun
    obtain ⟨cur, hcur⟩ : ∃ cur, Builtin.zeroCells (Value.int .u8 0).cells n ++ Builtin.zeroCells (Value.int .u8 0).cells (G - n) = cur := ⟨_, rfl⟩
    have hcs : cur.size = G * 1 := by
      rw [← hcur, Array.size_append, size_zeroCells, size_zeroCells]
      have : (Value.int .u8 0).cells.size = 1 := rfl
      rw [this]
      omega
    rw [hcur] at hrun
    obtain ⟨W2, hW2⟩ : ∃ W2, w.drew.alloc (.cells cur 5) = W2 := ⟨_, rfl⟩
    have hb2 : Below w.heap.size w W2 := by rw [← hW2]; exact (Below.refl _ _).drew.alloc (Nat.le_refl _) _
    have ho2 : OwnN .u8 5 W2 w.heap.size (.slice (some ⟨w.heap.size, 0, none⟩) 0 G) [] := by
      refine ⟨rfl, .inr ⟨w.heap.size, G, cur, rfl, Nat.le_refl _, ?_, by simp, hle, hcs, by simp⟩⟩
      rw [← hW2]
      exact heap_alloc_new w.drew _
    rw [hW2] at hrun
    have HB2 := Lib.hid hb2
    have HO2 := Lib.hid ho2
    have HN := Lib.hid h0
    have g0 : (0 : Int) ≤ (G : Int) := by omega
    clear hb2 ho2 hG hcur hcs hW2 hge hle h0
    go_enter Tryz.func76, Tryz.ntmps76
    go_wp2_with (at_builtin; refine Go.Lib.wpList_append_run _ rfl _ _ _ _ rfl _ _ rfl rfl _ _ (hrun _) ?_)
    go_ret
    exact ⟨_, rfl, HO2.out, fun h => absurd h HN.out, HB2.out⟩
/-- Slices of runs that are handed in one slice. -/
abbrev Sr := Option Addr × Nat × List Nat
def srv (x : Sr) : Value := .slice x.1 x.2.2.length x.2.1
def srs (l : List Sr) : List Nat := (l.map (·.2.2)).flatten
theorem srs_append (a b : List Sr) : srs (a ++ b) = srs a ++ srs b := by simp [srs]
theorem srs_take (l : List Sr) (i : Nat) (h : i < l.length) : srs (l.take (i + 1)) = srs (l.take i) ++ l[i].2.2 := by
  rw [List.take_succ_eq_append_getElem h, srs_append]
  congr 1
  simp [srs]
theorem srs_le (l : List Sr) (i : Nat) : (srs (l.take i)).length ≤ (srs l).length := by
  have h := srs_append (l.take i) (l.drop i)
  rw [List.take_append_drop] at h
  rw [h, List.length_append]
  omega
set_option maxRecDepth 20000 in
set_option maxHeartbeats 4000000 in
theorem ConcatB_c (B c : Nat) (sl : List Sr) (w : World) (hB : B < w.heap.size) (hc : ∀ i (h : i < sl.length), w.cell? ⟨B, i, none⟩ = some (srv sl[i])) (hr : ∀ x ∈ sl, RN .u8 w x.1 x.2.2) (hl : (srs sl).length ≤ 70000000000000) (hn : sl.length ≤ 100) :
    Calls Tryz.prog 36 #[.slice (some ⟨B, 0, none⟩) sl.length c] w fun e w' => ∃ v, e = .returned v ∧ OwnN .u8 5 w' w.heap.size v (srs sl) ∧ Below w.heap.size w w' := by
  have HC := Lib.hid hc
  have HR := Lib.hid hr
  have n0 : (sl.length : Int) ≤ 100 := by omega
  clear hc hr
  go_enter Tryz.func36, Tryz.ntmps36
  go_wp2_with fail
  go_loop [3, 11] (fun vs vi => ∃ i : Nat, i ≤ sl.length ∧ vi = .int .i64 i ∧ vs = .int .i64 ((srs (sl.take i)).length : Nat)) (fun _ vi => sl.length - (intOf vi).toNat)
  case atStart => exact ⟨0, by omega, rfl, rfl⟩
  case round =>
    obtain ⟨i, hi, rfl, rfl⟩ := hrel
    by_cases hlt : i < sl.length
    · have hd : decide ((i : Int) < sl.length) = true := decide_eq_true (by omega)
      have i0 : (0 : Int) ≤ (i : Int) := by omega
      have i1 : (i : Int) < (sl.length : Int) := by omega
      have hci := HC.out i hlt
      have hst := srs_take sl i hlt
      have hle := srs_le sl (i + 1)
      have hle0 := srs_le sl i
      obtain ⟨⟨xa, xc, xl⟩, hx⟩ : ∃ x, sl[i] = x := ⟨_, rfl⟩
      rw [hx] at hci hst
      have hst2 : (srs (sl.take (i + 1))).length = (srs (sl.take i)).length + xl.length := by rw [hst, List.length_append]
      unfold srv at hci
      dsimp only at hci
      obtain ⟨S, hS⟩ : ∃ S, (srs (sl.take i)).length = S := ⟨_, rfl⟩
      rw [hS] at hst2 hle0 ⊢
      have h1 : (S : Int) + xl.length ≤ 70000000000000 := by omega
      have h2 : (0 : Int) ≤ (S : Int) + xl.length := by omega
      have h3 : decide ((S : Int) + xl.length < 0) = false := decide_eq_false (by omega)
      have HST := Lib.hid hst2
      clear hst hx hS hst2 hle hle0 hl
      go_wp2_with fail
      go_round
      case rel => exact ⟨i + 1, by omega, by go_num, by rw [HST.out]; go_num⟩
      case measure => simp [intOf]; omega
    · have hd : decide ((i : Int) < sl.length) = false := decide_eq_false (by omega)
      obtain rfl : i = sl.length := by omega
      rw [List.take_length]
      obtain ⟨S, hS⟩ : ∃ S, (srs sl).length = S := ⟨_, rfl⟩
      rw [hS] at hl ⊢
      have HS := Lib.hid hS
      clear hS
      go_wp2_with fail
      refine (GrowB_c S w hl).mono ?_
      rintro e w1 ⟨v1, rfl, ho1, hv1, hb1⟩
      have HO1 := Lib.hid ho1
      have HV1 := Lib.hid hv1
      have HB1 := Lib.hid hb1
      clear ho1 hv1 hb1
      go_wp2_with fail
      go_loopw [6, 27] (fun vo vi W => ∃ i : Nat, i ≤ sl.length ∧ vi = .int .i64 i ∧ OwnN .u8 5 W w.heap.size vo (srs (sl.take i)) ∧ Below w.heap.size w W) (fun _ vi _ => sl.length - (intOf vi).toNat)
      case atStart => exact ⟨0, by omega, rfl, HO1.out, HB1.out⟩
      case round =>
        obtain ⟨i, hi, rfl, ho, hb⟩ := hrel
        have HO := Lib.hid ho
        have HB := Lib.hid hb
        have hsz := hb.size
        clear ho hb
        by_cases hlt : i < sl.length
        · have hd : decide ((i : Int) < sl.length) = true := decide_eq_true (by omega)
          have i0 : (0 : Int) ≤ (i : Int) := by omega
          have i1 : (i : Int) < (sl.length : Int) := by omega
          have hci : wr.cell? ⟨B, i, none⟩ = some (srv sl[i]) := (HB.out.cell (p := ⟨B, i, none⟩) hB).trans (HC.out i hlt)
          have hri := (HR.out _ (List.getElem_mem hlt)).below HB.out
          have hst := srs_take sl i hlt
          have hle := srs_le sl (i + 1)
          obtain ⟨⟨xa, xc, xl⟩, hx⟩ : ∃ x, sl[i] = x := ⟨_, rfl⟩
          rw [hx] at hci hst hri
          rw [hst, List.length_append, HS.out] at hle
          unfold srv at hci
          dsimp only at hci hri hle
          have HRI := Lib.hid hri
          have HST := Lib.hid hst
          clear hx hri hst
          obtain ⟨wo, rfl⟩ : ∃ wo : World, wo = wr := ⟨_, rfl⟩
          go_wp2_with (at_builtin; refine append_NN w.heap.size rfl (.tmp 31) (.tmp 32) 25 5 .u8 1 rfl Tryz.underlying25 info_u8 (by decide) _ (srs (sl.take i)) xl xa xc rfl rfl HO.out HRI.out hsz (by omega) ?_; intro v5 w5 ho5 hg5 _)
          have hb5 : Below w.heap.size w w5 := HB.out.grown hg5 hsz (fun k hk => own_base HO.out k hk)
          have HO5 := Lib.hid ho5
          have HB5 := Lib.hid hb5
          clear ho5 hg5 hb5
          go_wp2_with fail
          exact ⟨⟨i + 1, by omega, by go_num, by rw [HST.out]; exact HO5.out, HB5.out⟩, by simp [intOf]; omega⟩
        · have hd : decide ((i : Int) < sl.length) = false := decide_eq_false (by omega)
          obtain rfl : i = sl.length := by omega
          have ho := HO.out
          rw [List.take_length] at ho
          have HO2 := Lib.hid ho
          clear ho HO
          go_wp2_with fail
          go_ret
          exact ⟨_, rfl, HO2.out, HB.out⟩
theorem fill_one (C base : Array Value) (k : Nat) (hC : C.size = k) (hb : base.size = k) : Instr.fill (fun i => some (i * k, k)) base [(0, .agg C)] = some C := by
  have s1 : (Value.agg C).cells = C := rfl
  simp only [Instr.fill, s1, Nat.zero_mul]
  rw [if_neg (by simp [hC, hb])]
  congr 1
  apply Array.ext_getElem?
  intro j
  rw [splice_arr]
  by_cases h : j < k
  · rw [if_pos (by omega)]; simp
  · rw [if_neg (by omega), Array.getElem?_eq_none (by omega), Array.getElem?_eq_none (by omega)]
section
variable {P : Program} {ops : Array Oper} {rest : List Oper} {o : Oper} {a : Act} {Q : Exit → Act → World → Prop} {K : Act → World → Prop}
/-- A slice of one element that is known as a whole. -/
theorem wp_buildSlice1 {w : World} (t e : TypeId) (x : Operand) (ho : o.op = .buildSlice t 1 #[(0, x)]) (C : Array Value) {z : Value} (n : Nat) (hu : P.underlying t = some (.slice e)) (hinf : (P.info? e).map (fun i => (i.zero, i.size)) = some (some z, n)) (hC : C.size = n) (hn : 0 < n) (hn2 : n ≤ 1000)
    (hx : a.eval x = .agg C) (h : K (a.put o.dst (.slice (some ⟨w.heap.size, 0, none⟩) 1 1)) (w.alloc (.cells C e))) : Oper.wp P o a w K Q := by
  obtain ⟨ie, hie, hzz⟩ := Option.map_eq_some_iff.1 hinf
  simp only [Prod.mk.injEq] at hzz
  obtain ⟨hz, hs⟩ := hzz
  refine wp_buildSlice t e 1 #[(0, x)] ho C ie z hu hie hz (by rw [hs]; omega) (by rw [hs]; omega) ?_ h
  have e1 : ((#[(0, x)] : Array (Nat × Operand)).map fun (i, x) => (i, a.eval x)).toList = [(0, .agg C)] := by simp [hx]
  rw [e1, hs]
  exact fill_one C _ n hC (by simp)
end
section
variable {ops : Array Oper} {rest : List Oper} {o : Oper} {a : Act} {Q : Exit → Act → World → Prop} {K : Act → World → Prop}
/-- A slot is appended to a row of the call's own. -/
theorem step_append_slot {W : World} {E : Prop} (base : Nat) (hgd : o.guard = none) (s x : Operand)
    (ho : o.op = .call { callee := .builtin .append, args := #[s, x], argTypes := #[105, 105] })
    (v : Value) (n : Nat) (F : List Value) (C : Array Value) (gx c : Nat) (t : TypeId) (fr : Nat × Nat) (hs : a.eval s = v) (hx : a.eval x = .slice (some ⟨gx, 0, none⟩) 1 c)
    (HO : W.ownsRow base 117 34 v n F) (hC : W.heap[gx]? = some (.cells C t fr)) (hCs : C.size = 34) (hC1 : C.all (·.oneCell') = true) (hbase : base ≤ W.heap.size) (hn : n ≤ 100000)
    (h : ∀ v1 w1, w1.ownsRow base 117 34 v1 (n + 1) (F ++ C.toList) → W.grownBy w1 v.ownBlock → K (a.put o.dst v1) w1) :
    if Region.wanted o (yielded ops a.tmps) = true then Oper.wp Tryz.prog o a W K Q else E := by
  have hw : Region.wanted o (yielded ops a.tmps) = true := by simp [Region.wanted, hgd]
  rw [if_pos hw]
  obtain ⟨i0, hi0, hz0, hz1, hz2⟩ := info_parts infoS3
  obtain ⟨v1, w1, hr, h1, h2, _⟩ := run_append_own_at (P := Tryz.prog) W base 105 o.type 117 i0 (.agg zeroS) 34 48 Tryz.underlying105 hi0 hz0 hz1 hz2 zeroS_size (by decide) v n F HO ⟨gx, 0, none⟩ 1 c C.toList (by simp [hCs])
    (fun j u hu => by rw [Addr.add_lit, cell_of_row _ _ _ _ _ _ hC]; simpa using hu) (fun u hu => by rw [Array.all_eq_true_iff_forall_mem] at hC1; exact hC1 u (by simpa using hu)) (by simp only [maxLen]; omega) (by omega) hbase
  exact Go.Lib.wp_append_run W s x _ _ ho _ _ hs hx v1 w1 hr (h v1 w1 h1 h2)
end
end Go.Proofs.YtbcamfbbooggfaaGreat.F

/- A chunk is added. -/
set_option linter.unusedVariables false
set_option linter.unusedSimpArgs false
namespace Go.Proofs.YtbcamfbbooggfaaGreat.F
open Go.RowKit Go.Proofs.YtbcamfbbooggfaaGreatW.PrintWords
attribute [local go_sem ↓] Go.wp_at_zero Go.wp_at_succ

section
variable (sum : List Nat → List Nat)
/-- The program's packer, its data's block such as S says. -/
def PKd (S : Nat → Prop) (W : World) (b id wide : Nat) (L : List (List Nat)) : Prop :=
  ∃ A c A2 c2 F, F = L.flatten ∧ W.heap[b]? = some (.cells #[.int .i64 (id : Nat), .int .i64 (wide : Nat), .slice A L.length c, .slice A2 F.length c2] 115 (0, 0)) ∧
    RV 117 W A L.length (flatS (slotsFrom sum 128 L)) ∧ RV 5 W A2 F.length (F.map (encN .u8)) ∧ L.length ≤ c ∧ F.length ≤ c2 ∧ (0 < F.length → ∃ g o, A2 = some ⟨g, o, none⟩ ∧ S g)
end
theorem yieldsIf_load_blk {P : Program} {ops : Array Oper} {S : World → Prop} {op : Oper} {a : Act} (hw : Region.wanted op (yielded ops a.tmps) = true) (ty : TypeId) (x : Operand) (ho : op.op = .load ty x)
    (g : Nat) (hx : a.eval x = .pointer (some ⟨g, 0, none⟩)) (C : Array Value) (d : TypeDesc) (hS : ∀ w, S w → w.heap[g]? = some (.cells C ty (0, 0)))
    (hu : P.underlying ty = some d) (hd : (match d with | .struct _ | .array _ _ => true | _ => false) = true) (hi : (P.info? ty).map (·.size) = some C.size) : YieldsIf P ops S op (.agg C) a :=
  .inl ⟨hw, fun w hw' => by
    unfold execOp
    simp only [ho, hx, Instr.loadAt, Instr.sureAddr, Sem.run_bind, Sem.run_pure, Result.andThen_ok, run_loadVar_row w g ty ty C (0, 0) d (hS w hw') hu hd hi]⟩
theorem RV.setOther {t tp : TypeId} {W : World} {A : Option Addr} {n b j : Nat} {flat : List Value} {cs : Array Value} {u : Value} {z : Nat × Nat} (h : RV t W A n flat) (hb : W.heap[b]? = some (.cells cs tp z)) (ht : t ≠ tp) : RV t (W.setCell ⟨b, j, none⟩ u) A n flat :=
  h.move (fun g cs' x hg => heap_setCell_other _ _ _ _ (fun e => by
    have e : g = b := e
    subst e
    rw [hb] at hg
    injection hg with hg
    injection hg with _ h2 _
    exact ht h2.symm))
theorem RN.setOther {W : World} {A : Option Addr} {xs : List Nat} {b j : Nat} {cs : Array Value} {t : TypeId} {u : Value} {z : Nat × Nat} (h : RN .u8 W A xs) (hx : 1 ≤ xs.length) (hb : W.heap[b]? = some (.cells cs t z)) (hn : ∀ (n : Int), .int .u8 n ∉ cs) : RN .u8 (W.setCell ⟨b, j, none⟩ u) A xs := by
  obtain ⟨ad, e, hc⟩ := h.at 0 (by omega)
  subst e
  refine h.move (fun a ha => heap_setCell_other _ _ _ _ (fun e => ?_))
  cases ha
  have e : ad.block = b := e
  have hce : ad.add 0 = ad := by unfold Addr.add; split <;> simp_all
  rw [hce] at hc
  have h2 : W.cell? ⟨b, ad.off, none⟩ = cs[ad.off]? := cell_of_row _ _ _ _ _ _ hb
  have h3 : W.cell? ad = W.cell? ⟨b, ad.off, none⟩ ∨ W.cell? ad = none := by
    obtain ⟨k, o, r⟩ := ad
    have e : k = b := e
    subst e
    cases r with
    | none => exact .inl rfl
    | some r => exact .inr (by simp only [World.cell?]; split <;> rfl)
  rcases h3 with h3 | h3
  · rw [h3, h2] at hc
    exact hn _ (Array.mem_of_getElem? hc)
  · rw [h3] at hc
    cases hc
/-- Behind the row of slots: what is known. -/
def AddMid (w : World) (b id wide : Nat) (L L' : List (List Nat)) (A A2 : Option Addr) (c2 : Nat) (p F : List Nat) (w8 : World) : Prop :=
  ∃ A7 c7, L.length + 1 ≤ c7 ∧ RV 117 w8 A7 (L.length + 1) (flatS (slotsFrom sumN 128 L')) ∧ RV 5 w8 A2 F.length (F.map (encN .u8)) ∧ RN .u8 w8 A p ∧
    w8.heap[b]? = some (.cells #[.int .i64 (id : Nat), .int .i64 (wide : Nat), .slice A7 (L.length + 1) c7, .slice A2 F.length c2] 115 (0, 0)) ∧ Gr (fun k => k = b) w w8
/-- A new slot's variable. -/
def SlotAt (C : Array Value) (w wx : World) (v : Value) : Prop := ∃ g, v = .pointer (some ⟨g, 0, none⟩) ∧ w.heap.size ≤ g ∧ wx.heap[g]? = some (.cells C 117 (0, 0)) ∧ Below w.heap.size w wx
theorem yields_build3 {P : Program} {ops : Array Oper} {S : World → Prop} {op : Oper} {a : Act} (hw : Region.wanted op (yielded ops a.tmps) = true) (t : TypeId) (x y z : Operand) (ho : op.op = .build t #[(0, x), (1, y), (2, z)]) (vx vy vz : Value) (hx : a.eval x = vx) (hy : a.eval y = vy) (hz : a.eval z = vz) (cs : Array Value)
    (hb : P.built t [(0, vx), (1, vy), (2, vz)] = some cs) : YieldsIf P ops S op (.agg cs) a :=
  .inl ⟨hw, fun w _ => by
    have hb' : P.built t ((#[(0, x), (1, y), (2, z)] : Array (Nat × Operand)).map fun (i, x) => (i, a.eval x)).toList = some cs := by simpa [hx, hy, hz] using hb
    unfold execOp
    simp only [ho, Sem.run_bind, run_build w t _ cs hb', Result.andThen_ok]
    rfl⟩
set_option maxRecDepth 20000 in
set_option maxHeartbeats 4000000 in
theorem Add_ok (b id wide : Nat) (L : List (List Nat)) (A : Option Addr) (c : Nat) (p : List Nat) (w : World) (h : PK sumN w b id wide L) (hw1 : 1 ≤ wide) (hw2 : wide ≤ 64) (hL : L.length ≤ 64) (hF : L.flatten.length ≤ 32768) (hr : RN .u8 w A p) (hp : ∀ x ∈ p, x < 256) (hok : addErr wide L.length L.flatten.length p.length = 0) :
    Calls Tryz.prog 14 #[.pointer (some ⟨b, 0, none⟩), .slice A p.length c] w fun e w' => e = .returned (.tuple #[.int .i64 (L.length : Nat), .int .i64 0]) ∧ PKd sumN (fun g => w.heap.size ≤ g) w' b id wide (L ++ [p]) ∧ Gr (fun k => k = b) w w' := by
  have hro := Room_c sumN b id wide L w h hw1 hw2 hL hF
  have hpl : 1 ≤ p.length ∧ p.length ≤ 512 ∧ L.length ≠ 64 ∧ p.length ≤ roomN wide L.length L.flatten.length := by
    unfold addErr at hok
    split at hok
    · simp at hok
    · split at hok
      · simp at hok
      · split at hok
        · simp at hok
        · omega
  obtain ⟨hp1, hp2, hp3, hp4⟩ := hpl
  have HPK := Lib.hid h
  obtain ⟨A0, c0, A2, c2, F, hFF, h1, h2, h3, h4, h5⟩ := h
  rw [← hFF] at hF hro hp4
  have k2 : w.cell? ⟨b, 2, none⟩ = some (.slice A0 L.length c0) := by rw [cell_of_row _ _ _ _ _ _ h1]; rfl
  have hb : b < w.heap.size := (Array.getElem?_eq_some_iff.1 h1).1
  have d1 : decide ((p.length : Int) < 1) = false := decide_eq_false (by omega)
  have d2 : decide ((512 : Int) < (p.length : Int)) = false := decide_eq_false (by omega)
  have e1 : ((L.length : Int) == 64) = false := by rw [beq_eq_false_iff_ne]; omega
  obtain ⟨r, hrr⟩ : ∃ r, roomN wide L.length F.length = r := ⟨_, rfl⟩
  rw [hrr] at hro hp4
  have d4 : decide ((r : Int) < (p.length : Int)) = false := decide_eq_false (by omega)
  have d5 : decide (r < p.length) = false := decide_eq_false (by omega)
  have hsum := fun W (hR : RN .u8 W A p) => digSum_c A c p W hR hp (by omega)
  have hlen := sumN_len p
  rw [shaA_eq] at hsum
  have hbt := fun x y => built_slot (sumN p) x y hlen
  have HRO := Lib.hid hro
  have H1 := Lib.hid h1
  have H2 := Lib.hid h2
  have H3 := Lib.hid h3
  have HR := Lib.hid hr
  have HSUM := Lib.hid hsum
  have HFF := Lib.hid hFF
  clear hro h1 h2 h3 hr hsum hFF hrr
  go_enter Tryz.func14, Tryz.ntmps14
  go_wp2_with fail
  refine HRO.out.mono ?_
  rintro e w2 ⟨rfl, hb2⟩
  have H12 := Lib.hid ((hb2.block b hb).trans H1.out)
  have H22 := Lib.hid (H2.out.below hb2)
  have H32 := Lib.hid (H3.out.below hb2)
  have HR2 := Lib.hid (HR.out.below hb2)
  have HB2 := Lib.hid hb2
  have hs2 := hb2.size
  clear hb2 k2 HRO
  have k22 : w2.cell? ⟨b, 2, none⟩ = some (.slice A0 L.length c0) := by rw [cell_of_row _ _ _ _ _ _ H12.out]; rfl
  have k32 : w2.cell? ⟨b, 3, none⟩ = some (.slice A2 F.length c2) := by rw [cell_of_row _ _ _ _ _ _ H12.out]; rfl
  go_wp2_with fail
  have hbt2 := hbt ((128 : Int) + F.length) p.length
  have w1 : IntKind.i64.wrap ((128 : Int) + F.length) = (128 : Int) + F.length := by rw [IntKind.wrap_i64]; omega
  obtain ⟨C, hC⟩ : ∃ C, ((sumN p).map (encN .u8) ++ [Value.int .i64 ((128 : Int) + F.length), Value.int .i64 p.length]).toArray = C := ⟨_, rfl⟩
  obtain ⟨R, hR⟩ : ∃ R, ((sumN p).map (encN .u8)).toArray = R := ⟨_, rfl⟩
  rw [hC, hR] at hbt2
  have hCs : C.size = 34 := by rw [← hC]; simp [hlen]
  have hC1 : C.all (·.oneCell') = true := by rw [← hC]; simp [encN, Value.oneCell']
  have HS : Hid (∀ W (hR : RN .u8 W A p), Calls Tryz.prog 15 #[.slice A p.length c] W fun e w' => e = .returned (.agg R) ∧ Below W.heap.size W w') := Lib.hid (fun W h => by rw [← hR]; exact HSUM.out W h)
  have HC := Lib.hid hC
  have hinf : (Tryz.prog.info? 117).map (·.size) = some C.size := by rw [hCs]; exact infoS
  have HINF := Lib.hid hinf
  have HC1 := Lib.hid hC1
  have HCS := Lib.hid hCs
  have HZS := Lib.hid (zeroS_size.trans hCs.symm)
  have hz := zeroS_eq
  clear hC hR hbt HSUM hlen hCs hinf hC1 d1 d2 d4 d5 e1
  go_cut [6] from 32 to 42 (fun s6 wx => SlotAt C w2 wx s6)
  case first =>
    refine wp_region_late [5] (fun w' => w'.cell? ⟨b, 3, none⟩ = some (.slice A2 F.length c2)) (by kernel_rfl) k32 (fun hT => ?_)
    refine WL.take (i := 0) (v := ?_) rfl (by kernel_rfl) (by kernel_rfl) (by kernel_rfl) (by kernel_rfl) (fun _ _ _ h => h) (Or.inl ⟨by rfl, ?_⟩) (by assumption) ?_
    rotate_left 1
    · (intro w' hSw; (try (replace hSw := hSw (by decide); dsimp only at hSw)); go_split_ands; go_simp; try with_reducible rfl)
    simp only [Act.put, List.setIfInBounds_toArray, List.set_cons_zero, List.set_cons_succ]
    refine WL.take (i := 2) (v := ?_) rfl (by kernel_rfl) (by kernel_rfl) (by kernel_rfl) (by kernel_rfl) (fun _ _ _ h => h) (Or.inl ⟨by rfl, ?_⟩) (by assumption) ?_
    rotate_left 1
    · (intro w' hSw; (try (replace hSw := hSw (by decide); dsimp only at hSw)); go_split_ands; go_simp; try with_reducible rfl)
    simp only [Act.put, List.setIfInBounds_toArray, List.set_cons_zero, List.set_cons_succ]
    refine WL.take (i := 3) (v := ?_) rfl (by kernel_rfl) (by kernel_rfl) (by kernel_rfl) (by kernel_rfl) (fun _ _ _ h => h) (Or.inl ⟨by rfl, ?_⟩) (by assumption) ?_
    rotate_left 1
    · (intro w' hSw; (try (replace hSw := hSw (by decide); dsimp only at hSw)); go_split_ands; go_simp; try with_reducible rfl)
    simp only [Act.put, List.setIfInBounds_toArray, List.set_cons_zero, List.set_cons_succ]
    refine WL.take (i := 4) (v := ?_) rfl (by kernel_rfl) (by kernel_rfl) (by kernel_rfl) (by kernel_rfl) (fun _ _ _ h => h) (Or.inl ⟨by rfl, ?_⟩) (by assumption) ?_
    rotate_left 1
    · (intro w' hSw; (try (replace hSw := hSw (by decide); dsimp only at hSw)); go_split_ands; go_simp; try with_reducible rfl)
    simp only [Act.put, List.setIfInBounds_toArray, List.set_cons_zero, List.set_cons_succ]
    refine WL.take (i := 5) (v := ?_) rfl (by kernel_rfl) (by kernel_rfl) (by kernel_rfl) (by kernel_rfl) (fun _ _ _ h => h) (Or.inl ⟨by rfl, ?_⟩) (by assumption) ?_
    rotate_left 1
    · (intro w' hSw; (try (replace hSw := hSw (by decide); dsimp only at hSw)); go_split_ands; go_simp; try with_reducible rfl)
    simp only [Act.put, List.setIfInBounds_toArray, List.set_cons_zero, List.set_cons_succ]
    refine WL.take (i := 6) (v := ?_) rfl (by kernel_rfl) (by kernel_rfl) (by kernel_rfl) (by kernel_rfl) (fun _ _ _ h => h) (Or.inl ⟨by rfl, ?_⟩) (by assumption) ?_
    rotate_left 1
    · (intro w' hSw; (try (replace hSw := hSw (by decide); dsimp only at hSw)); go_split_ands; go_simp; try with_reducible rfl)
    simp only [Act.put, List.setIfInBounds_toArray, List.set_cons_zero, List.set_cons_succ]
    refine WL.take (i := 7) (v := ?_) rfl (by kernel_rfl) (by kernel_rfl) (by kernel_rfl) (by kernel_rfl) (fun _ _ _ h => h) (Or.inl ⟨by rfl, ?_⟩) (by assumption) ?_
    rotate_left 1
    · (intro w' hSw; (try (replace hSw := hSw (by decide); dsimp only at hSw)); go_split_ands; go_simp; try with_reducible rfl)
    simp only [Act.put, List.setIfInBounds_toArray, List.set_cons_zero, List.set_cons_succ]
    refine WL.take (i := 8) (v := ?_) rfl (by kernel_rfl) (by kernel_rfl) (by kernel_rfl) (by kernel_rfl) (fun _ _ _ h => h) (Or.inl ⟨by rfl, ?_⟩) (by assumption) ?_
    rotate_left 1
    · (intro w' hSw; (try (replace hSw := hSw (by decide); dsimp only at hSw)); go_split_ands; go_simp; try with_reducible rfl)
    simp only [Act.put, List.setIfInBounds_toArray, List.set_cons_zero, List.set_cons_succ]
    refine WL.take (i := 9) (v := ?_) rfl (by kernel_rfl) (by kernel_rfl) (by kernel_rfl) (by kernel_rfl) (fun _ _ _ h => h) (Or.inl ⟨by rfl, ?_⟩) (by assumption) ?_
    rotate_left 1
    · (intro w' hSw; (try (replace hSw := hSw (by decide); dsimp only at hSw)); go_split_ands; go_simp; try with_reducible rfl)
    simp only [Act.put, List.setIfInBounds_toArray, List.set_cons_zero, List.set_cons_succ]
    refine WL.two (i := 1) (j := 11) (by kernel_rfl) rfl rfl (fun K hK => ?_) (fun K hK => ?_)
    · go_simp
      go_at_call 15
      refine (HS.out _ (HR2.out.below (Below.refl _ _).drew)).mono ?_
      rintro e w5 ⟨rfl, hb5⟩
      replace hb5 : Below w2.heap.size w2 w5 := ⟨hb5.os, hb5.tape, hb5.output, hb5.size, hb5.block⟩
      have hT5 : w5.cell? ⟨b, 3, none⟩ = some (.slice A2 F.length c2) := (hb5.cell (p := ⟨b, 3, none⟩) (by show b < _; omega)).trans k32
      go_simp
      refine hK.out _ _ (fun _ => hT5) ?_
      clear hK K
      refine WL.take (i := 10) (v := .agg C) rfl (by kernel_rfl) (by kernel_rfl) (by kernel_rfl) (by kernel_rfl) (fun _ _ _ h => h) (yields_build3 (by rfl) 117 (.tmp 33) (.tmp 39) (.tmp 41) (by rfl) _ _ _ (by rfl) (by rfl) (by rfl) C hbt2) hT5 ?_
      simp only [Act.put, List.setIfInBounds_toArray, List.set_cons_zero, List.set_cons_succ]
      refine WL.one (i := 11) (by kernel_rfl) rfl (fun K hK => ?_)
      go_simp
      refine hK.out _ _ (fun _ => ?_) ?_
      · exact (((hb5.alloc hb5.size _).cell (p := ⟨b, 3, none⟩) (by show b < _; omega))).trans k32
      clear hK K hT5
      have hgg : (w5.alloc (.cells zeroS 117)).heap[w5.heap.size]? = some (.cells zeroS 117 (0, 0)) := heap_alloc_new _ _
      have hbw : Below w2.heap.size w2 (w5.alloc (.cells zeroS 117)) := hb5.alloc hb5.size _
      have hg2 : w2.heap.size ≤ w5.heap.size := hb5.size
      generalize w5.alloc (.cells zeroS 117) = w6 at hgg hbw ⊢
      generalize w5.heap.size = g at hgg hg2 ⊢
      refine WL.late (i := 12) (by kernel_rfl) rfl (by kernel_rfl) (fun K hK => ?_)
      rw [if_pos (by rfl)]
      refine wp_store_row 117 (.tmp 6) (.tmp 42) (by rfl) g (by rfl) C zeroS (by rfl) 117 hgg HINF.out HZS.out HC1.out ?_
      go_simp
      refine hK.out _ _ ?_
      clear hK K
      refine WL.done (by kernel_rfl) ?_ _
      go_wp2_with fail
      go_meet
      exact ⟨g, rfl, hg2, setRow_heap _ _ _ _ _ _ hgg, below_setRow hbw hg2 _⟩
    · go_simp
      have hb5 : Below w2.heap.size w2 (w2.alloc (.cells zeroS 117)).drew := ((Below.refl _ _).alloc (Nat.le_refl _) _).drew
      have hT5 : (w2.alloc (.cells zeroS 117)).drew.cell? ⟨b, 3, none⟩ = some (.slice A2 F.length c2) := (hb5.cell (p := ⟨b, 3, none⟩) (by show b < _; omega)).trans k32
      have hg5 : (w2.alloc (.cells zeroS 117)).drew.heap[w2.heap.size]? = some (.cells zeroS 117 (0, 0)) := heap_alloc_new _ _
      have hs5 : (w2.alloc (.cells zeroS 117)).drew.heap.size = w2.heap.size + 1 := by simp
      have hs5' := Lib.hid hs5
      clear hs5
      refine hK.out _ _ (fun _ => hT5) ?_
      clear hK K
      generalize (w2.alloc (.cells zeroS 117)).drew = w5 at hb5 hT5 hg5 hs5' ⊢
      refine WL.one (i := 1) (by kernel_rfl) rfl (fun K hK => ?_)
      go_simp
      go_at_call 15
      refine (HS.out _ (HR2.out.below hb5)).mono ?_
      rintro e w6 ⟨rfl, hb6⟩
      have hbw : Below w2.heap.size w2 w6 := hb5.trans (hb6.mono hb5.size)
      have hgg := (hb6.block w2.heap.size (by rw [hs5'.out]; omega)).trans hg5
      have hT6 := (hbw.cell (p := ⟨b, 3, none⟩) (by show b < _; omega)).trans k32
      have hg2 := Nat.le_refl w2.heap.size
      go_simp
      refine hK.out _ _ (fun _ => hT6) ?_
      clear hK K hT5
      refine WL.take (i := 10) (v := .agg C) rfl (by kernel_rfl) (by kernel_rfl) (by kernel_rfl) (by kernel_rfl) (fun _ _ _ h => h) (yields_build3 (by rfl) 117 (.tmp 33) (.tmp 39) (.tmp 41) (by rfl) _ _ _ (by rfl) (by rfl) (by rfl) C hbt2) hT6 ?_
      simp only [Act.put, List.setIfInBounds_toArray, List.set_cons_zero, List.set_cons_succ]
      clear hT6
      refine WL.late (i := 12) (by kernel_rfl) rfl (by kernel_rfl) (fun K hK => ?_)
      rw [if_pos (by rfl)]
      refine wp_store_row 117 (.tmp 6) (.tmp 42) (by rfl) w2.heap.size (by rfl) C zeroS (by rfl) 117 hgg HINF.out HZS.out HC1.out ?_
      go_simp
      refine hK.out _ _ ?_
      clear hK K
      refine WL.done (by kernel_rfl) ?_ _
      go_wp2_with fail
      go_meet
      exact ⟨w2.heap.size, rfl, hg2, setRow_heap _ _ _ _ _ _ hgg, below_setRow hbw hg2 _⟩
  case rest =>
    obtain ⟨g, rfl, hg2, hgc, hbc⟩ := hcut
    have hsc := hbc.size
    have hgl : g < wc.heap.size := (Array.getElem?_eq_some_iff.1 hgc).1
    have k2c : wc.cell? ⟨b, 2, none⟩ = some (.slice A0 L.length c0) := (hbc.cell (p := ⟨b, 2, none⟩) (by show b < _; omega)).trans k22
    have k3c : wc.cell? ⟨b, 3, none⟩ = some (.slice A2 F.length c2) := (hbc.cell (p := ⟨b, 3, none⟩) (by show b < _; omega)).trans k32
    have HBC := Lib.hid hbc
    have H2C := Lib.hid (H22.out.below hbc)
    have H1C := Lib.hid ((hbc.block b (by omega)).trans H12.out)
    have H3C := Lib.hid (H32.out.below hbc)
    have HRC := Lib.hid (HR2.out.below hbc)
    clear k22 k32
    go_wp2_with fail
    go_cut [] from 43 to 53 (fun wx => AddMid w b id wide L (L ++ [p]) A A2 c2 p F wx)
    case first =>
      have htt : (fun w' : World => w'.cell? ⟨b, 2, none⟩ = some (.slice A0 L.length c0) ∧ w'.heap[g]? = some (.cells C 117 (0, 0))) wc.drew := ⟨k2c, hgc⟩
      refine wp_region_late [4, 6] (fun w' => w'.cell? ⟨b, 2, none⟩ = some (.slice A0 L.length c0) ∧ w'.heap[g]? = some (.cells C 117 (0, 0))) (by kernel_rfl) htt (fun hT => ?_)
      refine WL.take (i := 0) (v := ?_) rfl (by kernel_rfl) (by kernel_rfl) (by kernel_rfl) (by kernel_rfl) (fun _ _ _ h => h) (Or.inl ⟨by rfl, ?_⟩) (by assumption) ?_
      rotate_left 1
      · (intro w' hSw; (try (replace hSw := hSw (by decide); dsimp only at hSw)); go_split_ands; go_simp; try with_reducible rfl)
      simp only [Act.put, List.setIfInBounds_toArray, List.set_cons_zero, List.set_cons_succ]
      refine WL.take (i := 1) (v := ?_) rfl (by kernel_rfl) (by kernel_rfl) (by kernel_rfl) (by kernel_rfl) (fun _ _ _ h => h) (Or.inl ⟨by rfl, ?_⟩) (by assumption) ?_
      rotate_left 1
      · (intro w' hSw; (try (replace hSw := hSw (by decide); dsimp only at hSw)); go_split_ands; go_simp; try with_reducible rfl)
      simp only [Act.put, List.setIfInBounds_toArray, List.set_cons_zero, List.set_cons_succ]
      refine WL.take (i := 2) (v := ?_) rfl (by kernel_rfl) (by kernel_rfl) (by kernel_rfl) (by kernel_rfl) (fun _ _ _ h => h) (Or.inl ⟨by rfl, ?_⟩) (by assumption) ?_
      rotate_left 1
      · (intro w' hSw; (try (replace hSw := hSw (by decide); dsimp only at hSw)); go_split_ands; go_simp; try with_reducible rfl)
      simp only [Act.put, List.setIfInBounds_toArray, List.set_cons_zero, List.set_cons_succ]
      refine WL.take (i := 3) (v := ?_) rfl (by kernel_rfl) (by kernel_rfl) (by kernel_rfl) (by kernel_rfl) (fun _ _ _ h => h) (Or.inl ⟨by rfl, ?_⟩) (by assumption) ?_
      rotate_left 1
      · (intro w' hSw; (try (replace hSw := hSw (by decide); dsimp only at hSw)); go_split_ands; go_simp; try with_reducible rfl)
      simp only [Act.put, List.setIfInBounds_toArray, List.set_cons_zero, List.set_cons_succ]
      refine WL.take (i := 4) (v := ?_) rfl (by kernel_rfl) (by kernel_rfl) (by kernel_rfl) (by kernel_rfl) (fun _ _ _ h => h) (Or.inl ⟨by rfl, ?_⟩) (by assumption) ?_
      rotate_left 1
      · (intro w' hSw; (try (replace hSw := hSw (by decide); dsimp only at hSw)); go_split_ands; go_simp; try with_reducible rfl)
      simp only [Act.put, List.setIfInBounds_toArray, List.set_cons_zero, List.set_cons_succ]
      refine WL.take (i := 6) (v := .agg C) rfl (by kernel_rfl) (by kernel_rfl) (by kernel_rfl) (by kernel_rfl) (fun _ _ _ h => h) (yieldsIf_load_blk (by rfl) 117 (.tmp 6) (by rfl) g (by rfl) C _ (fun w' h => (h (by decide)).2) Tryz.underlying117 (by rfl) HINF.out) hT ?_
      simp only [Act.put, List.setIfInBounds_toArray, List.set_cons_zero, List.set_cons_succ]
      refine WL.two (i := 5) (j := 7) (by kernel_rfl) rfl rfl (fun K hK => ?_) (fun K hK => ?_)
      · go_simp
        go_at_call 35
        refine (CloneS_c A0 c0 L.length (flatS (slotsFrom sumN 128 L)) _ (H2C.out.below (Below.refl _ _).drew) (flat_slots_len 128 L) (flatS_one _) (by omega)).mono ?_
        rintro e w5 ⟨v5, rfl, ho5, hb5⟩
        replace hb5 : Below wc.heap.size wc w5 := ⟨hb5.os, hb5.tape, hb5.output, hb5.size, hb5.block⟩
        replace ho5 : w5.ownsRow wc.heap.size 117 34 v5 L.length (flatS (slotsFrom sumN 128 L)) := ho5
        have hgc5 := (hb5.block g hgl).trans hgc
        go_simp
        refine hK.out _ _ (fun _ => ⟨(hb5.cell (p := ⟨b, 2, none⟩) (by show b < _; omega)).trans k2c, hgc5⟩) ?_
        clear hK K
        refine WL.one (i := 7) (by kernel_rfl) rfl (fun K hK => ?_)
        rw [if_pos (by rfl)]
        refine wp_buildSlice1 105 117 (.tmp 49) (by rfl) C 34 Tryz.underlying105 infoS2 HCS.out (by decide) (by decide) (by rfl) ?_
        go_simp
        have hb6 : Below wc.heap.size wc (w5.alloc (.cells C 117)) := hb5.alloc hb5.size _
        have hgx : (w5.alloc (.cells C 117)).heap[w5.heap.size]? = some (.cells C 117 (0, 0)) := heap_alloc_new _ _
        have hs6 := hb6.size
        have hT6 := (hb6.cell (p := ⟨b, 2, none⟩) (by show b < _; omega)).trans k2c
        have hgc6 := (hb6.block g hgl).trans hgc
        replace ho5 := pw_own_below ho5 ((Below.refl w5.heap.size w5).alloc (Nat.le_refl _) (.cells C 117))
        refine hK.out _ _ (fun _ => ⟨hT6, hgc6⟩) ?_
        clear hK K hb5 hgc5 hT6 hgc6
        generalize w5.alloc (.cells C 117) = w6 at hgx hb6 hs6 ho5 ⊢
        generalize w5.heap.size = gx at hgx ⊢
        refine WL.late (i := 8) (by kernel_rfl) rfl (by kernel_rfl) (fun K hK => ?_)
        refine step_append_slot wc.heap.size rfl (.tmp 48) (.tmp 50) (by rfl) v5 L.length _ C gx 1 117 (0, 0) (by rfl) (by rfl) ho5 hgx HCS.out HC1.out hs6 (by omega) ?_
        intro v7 w7 ho7 hg7
        have hb7 : Below wc.heap.size wc w7 := hb6.grown hg7 hs6 (fun j ej => own_base ho5 j ej)
        obtain ⟨A7, c7, e7, hc7, hr7, _⟩ := RV.ofOwn ho7
        subst e7
        have H17 := (hb7.block b (by omega)).trans H1C.out
        have K2 : w7.cell? ⟨b, 2, none⟩ = some (.slice A0 L.length c0) := by rw [cell_of_row _ _ _ _ _ _ H17]; rfl
        have K3 : w7.frozen? ⟨b, 2, none⟩ = false := frozen_of_row _ _ _ _ _ H17
        have K4 : w7.cell? ⟨b, 3, none⟩ = some (.slice A2 F.length c2) := by rw [cell_of_row _ _ _ _ _ _ H17]; rfl
        have HR7 := Lib.hid hr7
        have HB7 := Lib.hid hb7
        have HH17 := Lib.hid H17
        have HC7 := Lib.hid hc7
        clear ho5 hg7 hgx ho7 hr7 hb7 hb6 H17 hc7 hs6
        go_simp
        refine hK.out _ _ ?_
        clear hK K
        refine WL.late (i := 9) (by kernel_rfl) rfl (by kernel_rfl) (fun K hK => ?_)
        go_simp
        refine hK.out _ _ ?_
        clear hK K
        refine WL.late (i := 10) (by kernel_rfl) rfl (by kernel_rfl) (fun K hK => ?_)
        go_simp
        refine hK.out _ _ ?_
        clear hK K
        refine WL.late (i := 11) (by kernel_rfl) rfl (by kernel_rfl) (fun K hK => ?_)
        go_simp
        refine hK.out _ _ ?_
        clear hK K
        refine WL.done (by kernel_rfl) ?_ _
        go_wp2_with fail
        go_meet
        have hsl : flatS (slotsFrom sumN 128 L) ++ C.toList = flatS (slotsFrom sumN 128 (L ++ [p])) := by
          rw [slotsFrom_snoc, flatS_append, ← HC.out, ← HFF.out]
          simp [flatS, slCells]
        have hr7 := HR7.out
        rw [hsl] at hr7
        exact ⟨A7, c7, HC7.out, RV.setOther hr7 HH17.out (by decide), RV.setOther (H3C.out.below HB7.out) HH17.out (by decide), RN.setOther (HRC.out.below HB7.out) hp1 HH17.out (by simp), heap_setCell_same w7 b 2 _ _ _ HH17.out,
          ((Gr.of_below (fun k => k = b) HB2.out).trans (Gr.of_below (fun k => k = b) HBC.out) (fun _ _ h => h)).trans ((Gr.of_below (fun k => k = b) HB7.out).trans (Gr.setCell (S := fun k => k = b) w7 ⟨b, 2, none⟩ _ rfl) (fun _ _ h => h)) (fun _ _ h => h)⟩
      · rw [if_pos (by rfl)]
        refine wp_buildSlice1 105 117 (.tmp 49) (by rfl) C 34 Tryz.underlying105 infoS2 HCS.out (by decide) (by decide) (by rfl) ?_
        go_simp
        have hb5 : Below wc.heap.size wc (wc.alloc (.cells C 117)).drew := ((Below.refl _ _).alloc (Nat.le_refl _) _).drew
        have hgx5 : (wc.alloc (.cells C 117)).drew.heap[wc.heap.size]? = some (.cells C 117 (0, 0)) := heap_alloc_new _ _
        have hs5 : (wc.alloc (.cells C 117)).drew.heap.size = wc.heap.size + 1 := by simp
        have HS5 := Lib.hid hs5
        clear hs5
        refine hK.out _ _ (fun _ => ⟨(hb5.cell (p := ⟨b, 2, none⟩) (by show b < _; omega)).trans k2c, (hb5.block g hgl).trans hgc⟩) ?_
        clear hK K
        generalize (wc.alloc (.cells C 117)).drew = w5 at hgx5 hb5 HS5 ⊢
        refine WL.one (i := 5) (by kernel_rfl) rfl (fun K hK => ?_)
        go_simp
        go_at_call 35
        refine (CloneS_c A0 c0 L.length (flatS (slotsFrom sumN 128 L)) _ (H2C.out.below hb5) (flat_slots_len 128 L) (flatS_one _) (by omega)).mono ?_
        rintro e w6 ⟨v5, rfl, ho5, hb56⟩
        have hb6 : Below wc.heap.size wc w6 := hb5.trans (hb56.mono hb5.size)
        have hgx := (hb56.block wc.heap.size (by rw [HS5.out]; omega)).trans hgx5
        have hs6 := hb6.size
        have hT6 := (hb6.cell (p := ⟨b, 2, none⟩) (by show b < _; omega)).trans k2c
        have hgc6 := (hb6.block g hgl).trans hgc
        replace ho5 := own_weaken ho5 hb5.size
        go_simp
        refine hK.out _ _ (fun _ => ⟨hT6, hgc6⟩) ?_
        clear hK K hb5 hb56 hT6 hgc6 hgx5 HS5
        refine WL.late (i := 8) (by kernel_rfl) rfl (by kernel_rfl) (fun K hK => ?_)
        refine step_append_slot wc.heap.size rfl (.tmp 48) (.tmp 50) (by rfl) v5 L.length _ C wc.heap.size 1 117 (0, 0) (by rfl) (by rfl) ho5 hgx HCS.out HC1.out hs6 (by omega) ?_
        intro v7 w7 ho7 hg7
        have hb7 : Below wc.heap.size wc w7 := hb6.grown hg7 hs6 (fun j ej => own_base ho5 j ej)
        obtain ⟨A7, c7, e7, hc7, hr7, _⟩ := RV.ofOwn ho7
        subst e7
        have H17 := (hb7.block b (by omega)).trans H1C.out
        have K2 : w7.cell? ⟨b, 2, none⟩ = some (.slice A0 L.length c0) := by rw [cell_of_row _ _ _ _ _ _ H17]; rfl
        have K3 : w7.frozen? ⟨b, 2, none⟩ = false := frozen_of_row _ _ _ _ _ H17
        have K4 : w7.cell? ⟨b, 3, none⟩ = some (.slice A2 F.length c2) := by rw [cell_of_row _ _ _ _ _ _ H17]; rfl
        have HR7 := Lib.hid hr7
        have HB7 := Lib.hid hb7
        have HH17 := Lib.hid H17
        have HC7 := Lib.hid hc7
        clear ho5 hg7 hgx ho7 hr7 hb7 hb6 H17 hc7 hs6
        go_simp
        refine hK.out _ _ ?_
        clear hK K
        refine WL.late (i := 9) (by kernel_rfl) rfl (by kernel_rfl) (fun K hK => ?_)
        go_simp
        refine hK.out _ _ ?_
        clear hK K
        refine WL.late (i := 10) (by kernel_rfl) rfl (by kernel_rfl) (fun K hK => ?_)
        go_simp
        refine hK.out _ _ ?_
        clear hK K
        refine WL.late (i := 11) (by kernel_rfl) rfl (by kernel_rfl) (fun K hK => ?_)
        go_simp
        refine hK.out _ _ ?_
        clear hK K
        refine WL.done (by kernel_rfl) ?_ _
        go_wp2_with fail
        go_meet
        have hsl : flatS (slotsFrom sumN 128 L) ++ C.toList = flatS (slotsFrom sumN 128 (L ++ [p])) := by
          rw [slotsFrom_snoc, flatS_append, ← HC.out, ← HFF.out]
          simp [flatS, slCells]
        have hr7 := HR7.out
        rw [hsl] at hr7
        exact ⟨A7, c7, HC7.out, RV.setOther hr7 HH17.out (by decide), RV.setOther (H3C.out.below HB7.out) HH17.out (by decide), RN.setOther (HRC.out.below HB7.out) hp1 HH17.out (by simp), heap_setCell_same w7 b 2 _ _ _ HH17.out,
          ((Gr.of_below (fun k => k = b) HB2.out).trans (Gr.of_below (fun k => k = b) HBC.out) (fun _ _ h => h)).trans ((Gr.of_below (fun k => k = b) HB7.out).trans (Gr.setCell (S := fun k => k = b) w7 ⟨b, 2, none⟩ _ rfl) (fun _ _ h => h)) (fun _ _ h => h)⟩
    case rest =>
      obtain ⟨A7, c7, hc7, hr7u, hf7u, hp7u, h18, hg8⟩ := hcut
      have HR7u := Lib.hid hr7u
      have HF7u := Lib.hid hf7u
      have HP7u := Lib.hid hp7u
      have r3 : wc.cell? ⟨b, 3, none⟩ = some (.slice A2 F.length c2) := by rw [cell_of_row _ _ _ _ _ _ h18]; rfl
      have H18 := Lib.hid h18
      have HG8 := Lib.hid hg8
      have HC7 := Lib.hid hc7
      have hs8 : w.heap.size ≤ wc.heap.size := hg8.size
      clear hr7u hf7u hp7u h18 hg8 hc7
      clear HBC H2C H1C H3C HRC k2c k3c hsc hgl hgc hg2
      go_wp2_with fail
      clear r3
      have hb8 : b < wc.heap.size := (Array.getElem?_eq_some_iff.1 H18.out).1
      have hbA : Below wc.heap.size wc (wc.alloc (.cells #[.slice A2 F.length c2, .slice A p.length c] 25)) := (Below.refl _ _).alloc (Nat.le_refl _) _
      have hgA : (wc.alloc (.cells #[.slice A2 F.length c2, .slice A p.length c] 25)).heap[wc.heap.size]? = some (.cells #[.slice A2 F.length c2, .slice A p.length c] 25 (0, 0)) := heap_alloc_new _ _
      have hsA : (wc.alloc (.cells #[.slice A2 F.length c2, .slice A p.length c] 25)).heap.size = wc.heap.size + 1 := by simp
      refine (ConcatB_c wc.heap.size 2 [(A2, c2, F), (A, c, p)] (wc.alloc (.cells #[.slice A2 F.length c2, .slice A p.length c] 25)) (by simp) (fun i h => ?_) (fun x hx => ?_) ?_ (by simp)).mono ?_
      · rw [cell_of_row _ _ _ _ _ _ hgA]
        rcases i with _ | _ | i
        · rfl
        · rfl
        · simp at h; omega
      · simp only [List.mem_cons, List.not_mem_nil, or_false] at hx
        rcases hx with rfl | rfl
        · exact HF7u.out.rn.below hbA
        · exact HP7u.out.below hbA
      · simp [srs]; omega
      rintro e w9 ⟨v9, rfl, ho9, hb9⟩
      have e9 : srs [(A2, c2, F), (A, c, p)] = F ++ p := by simp [srs]
      rw [e9] at ho9
      obtain ⟨A9, c9, e9', hc9, hr9, hn9⟩ := RV.ofOwnN ho9
      subst e9'
      obtain ⟨G, hG⟩ : ∃ G, F ++ p = G := ⟨_, rfl⟩
      rw [hG] at hc9 hr9 hn9 ho9 ⊢
      have hb89 : Below wc.heap.size wc w9 := hbA.trans (hb9.mono (by omega))
      have h19 := (hb89.block b hb8).trans H18.out
      have H19 := Lib.hid h19
      have HR9 := Lib.hid (HR7u.out.below hb89)
      have HR9d := Lib.hid hr9
      have HB89 := Lib.hid hb89
      have HC9 := Lib.hid hc9
      have HN9 := Lib.hid (fun h => (hn9 h).imp fun g hg => (⟨hg.1, by have := hg.2; omega⟩ : A9 = some ⟨g, 0, none⟩ ∧ w.heap.size ≤ g))
      have HGE := Lib.hid hG
      have q3 : w9.cell? ⟨b, 3, none⟩ = some (.slice A2 F.length c2) := by rw [cell_of_row _ _ _ _ _ _ h19]; rfl
      have q4 : w9.frozen? ⟨b, 3, none⟩ = false := frozen_of_row _ _ _ _ _ h19
      have q5 : w9.cell? ⟨b, 2, none⟩ = some (.slice A7 (L.length + 1) c7) := by rw [cell_of_row _ _ _ _ _ _ h19]; rfl
      clear hbA hgA hsA ho9 hb9 hb89 h19 hr9 hn9 hG e9 hc9
      go_wp2_with fail
      go_ret2
      have hL' : (L ++ [p]).length = L.length + 1 := by simp
      refine ⟨by first | rfl | (congr 3; omega), ?_, ?_⟩
      · have h9' := heap_setCell_same w9 b 3 _ _ (.slice A9 G.length c9) H19.out
        have hr1 := RV.setOther (j := 3) (u := .slice A9 G.length c9) HR9.out H19.out (by decide)
        have hr2 := RV.setOther (j := 3) (u := .slice A9 G.length c9) HR9d.out H19.out (by decide)
        refine ⟨A7, c7, A9, c9, G, by rw [← HGE.out, HFF.out]; simp, by rw [hL']; exact h9', by rw [hL']; exact hr1, hr2, by rw [hL']; exact HC7.out, HC9.out, fun h => ?_⟩
        obtain ⟨g, h1, h2⟩ := HN9.out h
        exact ⟨g, 0, h1, h2⟩
      · exact (HG8.out.trans (Gr.of_below (fun k => k = b) HB89.out) (fun _ _ h => h)).trans (Gr.setCell (S := fun k => k = b) w9 ⟨b, 3, none⟩ _ rfl) (fun _ _ h => h)

end Go.Proofs.YtbcamfbbooggfaaGreat.F
