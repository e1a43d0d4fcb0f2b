/- Part 15 of the proof: TM2. -/
import Derived.Test.YtbcamfbbooggfaaGreatQ14
import Derived.Test.YtbcamfbbooggfaaGreatQ13
import Derived.Deep.MidRow
import Derived.Deep.QuietTactic
import Derived.BigQuiet
import Derived.Laws.Cover3

/- What a container's bytes say, in plain Lean; Parse. -/
set_option linter.unusedVariables false
set_option linter.unusedSimpArgs false
namespace Go.Proofs.YtbcamfbbooggfaaGreat.F
open Go.RowKit Go.Proofs.YtbcamfbbooggfaaGreatW.PrintWords

/-- How long the chunk of a table's row is. -/
def longB (bs : List Nat) (f i : Nat) : Nat := hdV bs (f + 34 * i + 32) 2
/-- Where it begins. -/
def atB (bs : List Nat) (f : Nat) : Nat → Nat
  | 0 => 128
  | i + 1 => atB bs f i + longB bs f i
def slotB (bs : List Nat) (f i : Nat) : Sl := ((bs.drop (f + 34 * i)).take 32, atB bs f i, longB bs f i)
def slotsB (bs : List Nat) (f n : Nat) : List Sl := (List.range n).map (slotB bs f)
def okB (bs : List Nat) (f i : Nat) : Prop := 1 ≤ longB bs f i ∧ longB bs f i ≤ 512
instance (bs : List Nat) (f i : Nat) : Decidable (okB bs f i) := inferInstanceAs (Decidable (_ ∧ _))
/-- How a container's bytes read from the table on. -/
def tableB (bs : List Nat) (f n id s : Nat) : Int × Nat × Nat × List Sl :=
  if crcMore 0 ((bs.drop f).take (34 * n)) ≠ s then (5, 0, 0, [])
  else if ¬ ∀ i < n, okB bs f i then (2, 0, 0, [])
  else if atB bs f n ≠ f then (4, 0, 0, [])
  else (0, id, (f + 34 * n + 127) / 128, slotsB bs f n)
/-- What a container's bytes say, or why not. -/
def parseP (bs : List Nat) : Int × Nat × Nat × List Sl :=
  if headN bs ≠ 0 then (headN bs, 0, 0, []) else tableB bs (128 + hdV bs 10 4) (hdV bs 8 2) (hdV bs 4 4) (hdV bs 14 4)
theorem slotsB_succ (bs : List Nat) (f n : Nat) : slotsB bs f (n + 1) = slotsB bs f n ++ [slotB bs f n] := by
  unfold slotsB
  rw [List.range_succ, List.map_append]
  rfl
theorem slotsB_len (bs : List Nat) (f n : Nat) : (slotsB bs f n).length = n := by simp [slotsB]
theorem headN_zero {bs : List Nat} (h : headN bs = 0) : 128 ≤ bs.length ∧ bs.take 4 = binN ∧ hdV bs 18 4 = crcMore 0 (bs.take 18) ∧ (((bs.drop 22).take 106).any (fun x => decide (x ≠ 0))) = false ∧ hdV bs 4 4 < 4096 ∧ hdV bs 8 2 ≤ 64 ∧ 128 + hdV bs 10 4 + 34 * hdV bs 8 2 ≤ bs.length := by
  unfold headN at h
  split at h
  · simp at h
  split at h
  · simp at h
  split at h
  · simp at h
  split at h
  · simp at h
  split at h
  · simp at h
  split at h
  · simp at h
  rename_i a b c d e f
  exact ⟨by omega, Decidable.not_not.1 b, Decidable.not_not.1 c, by simpa using d, by omega, by omega, by omega⟩
/-- A bin by value. -/
def BinV (W : World) (v : Value) (id sec : Nat) (l : List Sl) : Prop := ∃ A c, v = .agg #[.int .i64 (id : Nat), .int .i64 (sec : Nat), .slice A l.length c] ∧ RV 117 W A l.length (flatS l)
def ParseAns (r : Int × Nat × Nat × List Sl) (w : World) (e : Ending) (w' : World) : Prop :=
  ∃ v, e = .returned (.tuple #[v, .int .i64 r.1]) ∧ BinV w' v r.2.1 r.2.2.1 r.2.2.2 ∧ Below w.heap.size w w'
def ScanMid (bs : List Nat) (f V4 sec : Nat) (w : World) (g8 i : Nat) (W : World) : Prop :=
  ∃ A c, i ≤ c ∧ W.ownsRow (g8 + 1) 117 34 (.slice A i c) i (flatS (slotsB bs f i)) ∧
    W.heap[g8]? = some (.cells #[.int .i64 (V4 : Nat), .int .i64 (sec : Nat), .slice A i c] 107 (0, 0)) ∧
    W.heap[w.heap.size]? = some (.cells #[.int .i64 0, .int .i64 0, .slice none 0 0] 107 (0, 0)) ∧ Below w.heap.size w W ∧ g8 < W.heap.size
/-- An array is loaded from wherever its cells can be read. -/
theorem yieldsIf_load_at {P : Program} {ops : Array Oper} {S : World → Prop} {op : Oper} {a : Act} (hw : Region.wanted op (yielded ops a.tmps) = true) (ty : TypeId) (x : Operand) (ho : op.op = .load ty x)
    (ad : Addr) (hx : a.eval x = .pointer (some ad)) (cs : List Value) (d : TypeDesc) (hS : ∀ w, S w → ∀ j v, cs[j]? = some v → w.cell? (ad.add j) = some v)
    (hu : P.underlying ty = some d) (hd : d.isRow = true) (hi : (P.info? ty).map (·.size) = some cs.length) : YieldsIf P ops S op (.agg cs.toArray) a :=
  .inl ⟨hw, fun w hw' => by
    have hl : (loadCells ad cs.length).run P w = .ok cs.toArray w := run_loadCells_list (P := P) w ad cs (hS w hw')
    have hv : (loadVar ty ad).run P w = .ok (.agg cs.toArray) w := by
      cases hq : P.info? ty with
      | none => simp [hq] at hi
      | some i =>
        have hs : i.size = cs.length := by simpa [hq] using hi
        have hagg : (isAgg ty).run P w = .ok true w := by
          unfold isAgg
          rw [Sem.run_bind, run_underlying hu w]
          cases d <;> simp_all
        simp [loadVar, Sem.run_bind, hagg, sizeOf, typeInfo, hq, hs, hl]
    unfold execOp
    simp only [ho, hx, Instr.loadAt, Instr.sureAddr, Sem.run_bind, Sem.run_pure, Result.andThen_ok, hv]⟩
theorem RN.addr {W : World} {A : Option Addr} {p : List Nat} (h : RN .u8 W A p) (hp : 0 < p.length) : ∃ ad, A = some ad ∧ ∀ j v, (p.map (encN .u8))[j]? = some v → W.cell? (ad.add j) = some v := by
  obtain ⟨ad, e, _⟩ := h.at 0 hp
  refine ⟨ad, e, fun j v hv => ?_⟩
  rw [List.getElem?_map] at hv
  obtain ⟨x, hx, rfl⟩ := Option.map_eq_some_iff.1 hv
  obtain ⟨hj, rfl⟩ := List.getElem?_eq_some_iff.1 hx
  obtain ⟨ad', e', hc⟩ := h.at j hj
  rw [e] at e'
  injection e' with e'
  rw [e', hc]
  rfl
/-- A row of the table. -/
def rowB (bs : List Nat) (f i : Nat) : List Nat := (bs.drop (f + 34 * i)).take 34
theorem rowB_of (bs : List Nat) (f n i : Nat) (h : i < n) : ((((bs.drop f).take (34 * n)).drop (34 * i)).take 34) = rowB bs f i := by
  unfold rowB
  rw [List.drop_take, List.drop_drop, List.take_take, Nat.min_eq_left (by omega)]
theorem rowB_long (bs : List Nat) (f i : Nat) : hdV (rowB bs f i) 32 2 = longB bs f i := by
  unfold hdV longB rowB hdV
  rw [List.drop_take, List.drop_drop, List.take_take, Nat.min_eq_left (by omega)]
theorem rowB_sum (bs : List Nat) (f i : Nat) : (rowB bs f i).take 32 = (slotB bs f i).1 := by
  unfold rowB slotB
  rw [List.take_take, Nat.min_eq_left (by omega)]
theorem rowB_len (bs : List Nat) (f i : Nat) (h : f + 34 * i + 34 ≤ bs.length) : (rowB bs f i).length = 34 := by
  unfold rowB
  rw [List.length_take, List.length_drop]
  omega
theorem atB_le (bs : List Nat) (f i : Nat) (h : ∀ j < i, okB bs f j) : atB bs f i ≤ 128 + 512 * i := by
  induction i with
  | zero => exact Nat.le_refl _
  | succ i ih =>
    have h1 := ih (fun j hj => h j (by omega))
    have h2 := (h i (by omega)).2
    show atB bs f i + longB bs f i ≤ _
    omega
def Reads8 (W : World) (ad : Addr) (q : List Nat) : Prop := ∀ j v, (q.map (encN .u8))[j]? = some v → W.cell? (ad.add j) = some v
/-- The scan of the table, i rows behind it. -/
def ScanRel (bs : List Nat) (f V4 sec : Nat) (w : World) (g8 i : Nat) (W : World) (vi va : Value) : Prop :=
  vi = .int .i64 (i : Nat) ∧ va = .int .i64 (atB bs f i : Nat) ∧ (∀ j < i, okB bs f j) ∧ ScanMid bs f V4 sec w g8 i W
abbrev Z4 : Array Value := #[Value.int IntKind.i64 0, Value.int IntKind.i64 0, Value.int IntKind.i64 0, Value.int IntKind.i64 0]
theorem store4 (W : World) (C : Array Value) (hsz : C.size = 4) (hone : C.all (·.oneCell') = true) :
    Sem.run Tryz.prog (storeCells ⟨W.heap.size, 0, none⟩ C.toList) (W.alloc (Obj.cells Z4 163)) = .ok () ((W.alloc (Obj.cells Z4 163)).setRow W.heap.size C) := by
  have := run_storeCells_at (P := Tryz.prog) W.heap.size 0 163 C.toList 0 _ _ (heap_alloc_new W (.cells Z4 163)) (by simp [hsz]) (fun v hv => Array.all_eq_true_iff_forall_mem.1 hone v (Array.mem_toList_iff.1 hv))
  rw [this]
  congr 2
  simp [hsz]
theorem bin_set3 (W : World) (g : Nat) (a b c x y z : Value) (hg : W.heap[g]? = some (.cells #[x, y, z] 107 (0, 0))) :
    (((W.setCell ⟨g, 0, none⟩ a).setCell ⟨g, 1, none⟩ b).setCell ⟨g, 2, none⟩ c).heap[g]? = some (.cells #[a, b, c] 107 (0, 0)) :=
  heap_setCell_same _ g 2 _ _ c (heap_setCell_same _ g 1 _ _ b (heap_setCell_same _ g 0 _ _ a hg))
theorem info_bin : (Tryz.prog.info? 107).map (·.size) = some 3 := by kernel_rfl
theorem parse_ret (tmps : Array Value) (W w : World) (g : Nat) (r : Int × Nat × Nat × List Sl) (A : Option Addr) (c : Nat) (hp : tmps.getD 2 undef = .pointer (some ⟨g, 0, none⟩)) (he : tmps.getD 3 undef = .int .i64 r.1)
    (hg : W.heap[g]? = some (.cells #[.int .i64 (r.2.1 : Nat), .int .i64 (r.2.2.1 : Nat), .slice A r.2.2.2.length c] 107 (0, 0))) (hr : RV 117 W A r.2.2.2.length (flatS r.2.2.2)) (hb : Below w.heap.size w W) :
    bodyPost Tryz.prog Tryz.f30 (ParseAns r w) .ret { tmps := tmps, defers := [] } W := by
  have h := results_ct (P := Tryz.prog) (fn := Tryz.f30) rfl tmps W g 107 _ (0, 0) _ hp hg Tryz.underlying107 rfl info_bin
  rw [he] at h
  exact bodyPost_ret h rfl ⟨_, rfl, ⟨A, c, rfl, hr⟩, hb⟩
theorem parse_fail (tmps : Array Value) (W w : World) (g : Nat) (E : Int) (x y z : Value) (hp : tmps.getD 2 undef = .pointer (some ⟨g, 0, none⟩)) (he : tmps.getD 3 undef = .int .i64 E)
    (hg : W.heap[g]? = some (.cells #[x, y, z] 107 (0, 0))) (hb : Below w.heap.size w W) (hle : w.heap.size ≤ g) :
    bodyPost Tryz.prog Tryz.f30 (ParseAns (E, 0, 0, []) w) .ret { tmps := tmps, defers := [] } (((W.setCell ⟨g, 0, none⟩ (.int .i64 0)).setCell ⟨g, 1, none⟩ (.int .i64 0)).setCell ⟨g, 2, none⟩ (.slice none 0 0)) :=
  parse_ret tmps _ w g (E, 0, 0, []) none 0 hp he (bin_set3 W g _ _ _ _ _ _ hg) (RV.nil _ _ _ _) (((hb.setCell hle _).setCell hle _).setCell hle _)

set_option maxRecDepth 20000 in
set_option maxHeartbeats 8000000 in
theorem Parse_c (A : Option Addr) (c : Nat) (bs : List Nat) (w : World) (hr : RN .u8 w A bs) (hcap : bs.length ≤ c) (hb : ∀ x ∈ bs, x < 256) :
    Calls Tryz.prog 30 #[.slice A bs.length c] w (ParseAns (parseP bs) w) := by
  have hm := hr.max
  have hbx : Below w.heap.size w (w.alloc (.cells #[.int .i64 0, .int .i64 0, .slice none 0 0] 107)) := (Below.refl _ _).alloc (Nat.le_refl _) _
  have hgx : (w.alloc (.cells #[.int .i64 0, .int .i64 0, .slice none 0 0] 107)).heap[w.heap.size]? = some (.cells #[.int .i64 0, .int .i64 0, .slice none 0 0] 107 (0, 0)) := heap_alloc_new _ _
  have hhd := headed_c A c bs _ (hr.below hbx) hcap hb
  obtain ⟨W1, hW1⟩ : ∃ W1, w.alloc (.cells #[.int .i64 0, .int .i64 0, .slice none 0 0] 107) = W1 := ⟨_, rfl⟩
  have HW1 := Lib.hid hW1
  rw [hW1] at hbx hgx hhd
  have hs1 := hbx.size
  have HR := Lib.hid hr
  have HHD := Lib.hid hhd
  have HBX := Lib.hid hbx
  have HGX := Lib.hid hgx
  have HB := Lib.hid hb
  obtain ⟨h, hh⟩ : ∃ h, headN bs = h := ⟨_, rfl⟩
  rw [hh] at HHD
  have HH := Lib.hid hh
  clear hr hbx hgx hhd hW1 hh hb
  go_enter Tryz.func30, Tryz.ntmps30
  go_wp2_with fail
  rw [HW1.out]
  refine HHD.out.mono ?_
  rintro e w2 ⟨rfl, hb2⟩
  have hg2 := (hb2.block w.heap.size (Array.getElem?_eq_some_iff.1 HGX.out).1).trans HGX.out
  have HB2 := Lib.hid (HBX.out.trans (hb2.mono hs1))
  have HG2 := Lib.hid hg2
  clear hb2 hg2
  by_cases h0 : h = 0
  · subst h0
    obtain ⟨q1, q2, q3, q4, q5, q6, q7⟩ := headN_zero HH.out
    have hnm := numbers_c A c bs w2 (HR.out.below HB2.out) hcap HB.out q1
    have hv4 := hdV_lt bs 4 4 (by omega) HB.out
    have hv8 := hdV_lt bs 8 2 (by omega) HB.out
    have hv10 := hdV_lt bs 10 4 (by omega) HB.out
    have hv14 := hdV_lt bs 14 4 (by omega) HB.out
    have hP : parseP bs = tableB bs (128 + hdV bs 10 4) (hdV bs 8 2) (hdV bs 4 4) (hdV bs 14 4) := by unfold parseP; rw [if_neg (by rw [HH.out]; simp)]
    obtain ⟨V4, e4⟩ : ∃ V, hdV bs 4 4 = V := ⟨_, rfl⟩
    obtain ⟨n, e8⟩ : ∃ V, hdV bs 8 2 = V := ⟨_, rfl⟩
    obtain ⟨V10, e10⟩ : ∃ V, hdV bs 10 4 = V := ⟨_, rfl⟩
    obtain ⟨V14, e14⟩ : ∃ V, hdV bs 14 4 = V := ⟨_, rfl⟩
    rw [e4] at hnm hv4 hP q5
    rw [e8] at hnm hv8 hP q6 q7
    rw [e10] at hnm hv10 hP q7
    rw [e14] at hnm hv14 hP
    replace hv10 : V10 < 4294967296 := hv10
    replace hv14 : V14 < 4294967296 := hv14
    have HP := Lib.hid hP
    obtain ⟨C, hC⟩ : ∃ C, c4 V4 n V10 V14 = C := ⟨_, rfl⟩
    have hone : C.all (·.oneCell') = true := by rw [← hC]; simp [c4, Value.oneCell']
    have hsz : C.size = 4 := by rw [← hC]; rfl
    have c0 : C[0]? = some (.int .i64 (V4 : Nat)) := by rw [← hC]; rfl
    have c1 : C[1]? = some (.int .i64 (n : Nat)) := by rw [← hC]; rfl
    have c2 : C[2]? = some (.int .i64 (V10 : Nat)) := by rw [← hC]; rfl
    have c3 : C[3]? = some (.int .i64 (V14 : Nat)) := by rw [← hC]; rfl
    rw [hC] at hnm
    have HNM := Lib.hid hnm
    clear hP hnm hC e4 e8 e10 e14 hv4 hv8
    go_wp2_with fail
    refine HNM.out.mono ?_
    rintro e w6 ⟨rfl, hb6⟩
    have hst := store4 w6 C hsz hone
    have hnew : (w6.alloc (Obj.cells Z4 163)).heap[w6.heap.size]? = some (Obj.cells Z4 163 (0, 0)) := heap_alloc_new _ _
    have hb7 : Below w2.heap.size w2 ((w6.alloc (Obj.cells Z4 163)).setRow w6.heap.size C) := below_setRow (hb6.alloc hb6.size _) hb6.size _
    have hrow := setRow_heap _ w6.heap.size _ C _ _ hnew
    obtain ⟨W7, hW7⟩ : ∃ W7, (w6.alloc (Obj.cells Z4 163)).setRow w6.heap.size C = W7 := ⟨_, rfl⟩
    rw [hW7] at hst hb7 hrow
    have hg7 := (hb7.block w.heap.size (Array.getElem?_eq_some_iff.1 HG2.out).1).trans HG2.out
    have hsz7 : w2.heap.size ≤ w6.heap.size := hb6.size
    have hb27 := HB2.out.trans (hb7.mono HB2.out.size)
    have hl6 : w6.heap.size < W7.heap.size := (Array.getElem?_eq_some_iff.1 hrow).1
    have k0 : W7.cell? ⟨w6.heap.size, 0, none⟩ = some (.int .i64 (V4 : Nat)) := by rw [cell_of_row _ _ _ _ _ _ hrow]; exact c0
    have k1 : W7.cell? ⟨w6.heap.size, 1, none⟩ = some (.int .i64 (n : Nat)) := by rw [cell_of_row _ _ _ _ _ _ hrow]; exact c1
    have k2 : W7.cell? ⟨w6.heap.size, 2, none⟩ = some (.int .i64 (V10 : Nat)) := by rw [cell_of_row _ _ _ _ _ _ hrow]; exact c2
    have k3 : W7.cell? ⟨w6.heap.size, 3, none⟩ = some (.int .i64 (V14 : Nat)) := by rw [cell_of_row _ _ _ _ _ _ hrow]; exact c3
    obtain ⟨i0, hi0, hs0⟩ := info_u8''
    obtain ⟨A2, s2, r2⟩ := RN.mid (P := Tryz.prog) 25 5 .u8 Tryz.underlying25 hi0 hs0 A bs.length c (128 + V10) (128 + V10 + 34 * n) (by omega) (by omega) hcap
    rw [show 128 + V10 + 34 * n - (128 + V10) = 34 * n by omega] at s2 r2
    rw [show ((128 + V10 + 34 * n : Nat) : Int) = 128 + (V10 : Int) + 34 * (n : Int) by omega, show ((128 + V10 : Nat) : Int) = 128 + (V10 : Int) by omega] at s2
    have HB7 := Lib.hid hb27
    have HG7 := Lib.hid hg7
    have HR2 := Lib.hid r2
    clear hnew hb7 hrow hb6 hW7 hg7 c0 c1 c2 c3 hi0 hs0 r2 hb27 HNM HG2
    have w1 : IntKind.i64.wrap ((128 : Int) + V10) = (128 : Int) + V10 := by rw [IntKind.wrap_i64]; omega
    have w34 : IntKind.i64.wrap ((34 : Int) * n) = (34 : Int) * n := by rw [IntKind.wrap_i64]; omega
    have w35 : IntKind.i64.wrap ((128 : Int) + V10 + 34 * n) = (128 : Int) + V10 + 34 * n := by rw [IntKind.wrap_i64]; omega
    go_wp2_with fail
    have hcrc : ∀ W, Below W7.heap.size W7 W → Calls Tryz.prog 62 #[.slice A2 (34 * n) (c - (128 + V10))] W fun e w' => e = .returned (.int .u32 (crcMore 0 ((bs.drop (128 + V10)).take (34 * n)) : Nat)) ∧ w' = W := fun W hW => by
      have := Crc_c A2 (c - (128 + V10)) ((bs.drop (128 + V10)).take (34 * n)) W (HR2.out W bs rfl (HR.out.below (HB7.out.trans (hW.mono HB7.out.size)))) (fun x hx => HB.out x (List.mem_of_mem_drop (List.mem_of_mem_take hx)))
      rwa [show ((bs.drop (128 + V10)).take (34 * n)).length = 34 * n by rw [List.length_take, List.length_drop]; omega] at this
    have hcl := crcMore_lt 0 ((bs.drop (128 + V10)).take (34 * n))
    have hT : tableB bs (128 + V10) n V4 V14 = if crcMore 0 ((bs.drop (128 + V10)).take (34 * n)) ≠ V14 then (5, 0, 0, []) else if ¬ ∀ i < n, okB bs (128 + V10) i then (2, 0, 0, []) else if atB bs (128 + V10) n ≠ 128 + V10 then (4, 0, 0, []) else (0, V4, (128 + V10 + 34 * n + 127) / 128, slotsB bs (128 + V10) n) := rfl
    obtain ⟨K, hK⟩ : ∃ K, crcMore 0 ((bs.drop (128 + V10)).take (34 * n)) = K := ⟨_, rfl⟩
    rw [hK] at hcrc hcl hT
    obtain ⟨R, hR⟩ : ∃ R, tableB bs (128 + V10) n V4 V14 = R := ⟨_, rfl⟩
    rw [hR] at hT
    have HPR := Lib.hid (HP.out.trans hR)
    have HT := Lib.hid hT
    have HCRC := Lib.hid hcrc
    clear hcrc hT hR hK HP
    have HC7 : IntKind.i64.wrap (K : Int) = (K : Int) := by rw [IntKind.wrap_i64]; omega
    go_cut [39] from 34 to 39 (fun s39 wx => s39 = .bool ((K : Int) != (V14 : Int)) ∧ Below W7.heap.size W7 wx)
    case first =>
      refine wp_region_late [4] (fun w' => w'.cell? ⟨w6.heap.size, 3, none⟩ = some (.int .i64 (V14 : Nat))) (by kernel_rfl) k3 (fun hT => ?_)
      refine WL.take (i := 0) (v := ?_) rfl (by kernel_rfl) (by kernel_rfl) (by kernel_rfl) (by kernel_rfl) (fun _ _ _ h => h) (Or.inl ⟨by rfl, ?_⟩) (by assumption) ?_
      rotate_left 1
      · (intro w' hSw; (try (replace hSw := hSw (by decide); dsimp only at hSw)); go_split_ands; go_simp; try with_reducible rfl)
      simp only [Act.put, List.getElem_toArray, List.getElem_cons_zero, List.getElem_cons_succ, List.setIfInBounds_toArray, List.set_cons_zero, List.set_cons_succ]
      refine WL.take (i := 3) (v := ?_) rfl (by kernel_rfl) (by kernel_rfl) (by kernel_rfl) (by kernel_rfl) (fun _ _ _ h => h) (Or.inl ⟨by rfl, ?_⟩) (by assumption) ?_
      rotate_left 1
      · (intro w' hSw; (try (replace hSw := hSw (by decide); dsimp only at hSw)); go_split_ands; go_simp; try with_reducible rfl)
      simp only [Act.put, List.getElem_toArray, List.getElem_cons_zero, List.getElem_cons_succ, List.setIfInBounds_toArray, List.set_cons_zero, List.set_cons_succ]
      refine WL.take (i := 4) (v := ?_) rfl (by kernel_rfl) (by kernel_rfl) (by kernel_rfl) (by kernel_rfl) (fun _ _ _ h => h) (Or.inl ⟨by rfl, ?_⟩) (by assumption) ?_
      rotate_left 1
      · (intro w' hSw; (try (replace hSw := hSw (by decide); dsimp only at hSw)); go_split_ands; go_simp; try with_reducible rfl)
      simp only [Act.put, List.getElem_toArray, List.getElem_cons_zero, List.getElem_cons_succ, List.setIfInBounds_toArray, List.set_cons_zero, List.set_cons_succ]
      refine WL.one (i := 1) (by kernel_rfl) rfl (fun K hK => ?_)
      go_simp
      go_at_call 62
      refine (HCRC.out _ (Below.refl _ _).drew).mono ?_
      rintro e w8 ⟨rfl, hw8⟩
      subst hw8
      go_simp
      refine hK.out _ _ (fun _ => k3) ?_
      clear hK K
      have k3' : W7.drew.cell? ⟨w6.heap.size, 3, none⟩ = some (.int .i64 (V14 : Nat)) := k3
      refine WL.take (i := 2) (v := ?_) rfl (by kernel_rfl) (by kernel_rfl) (by kernel_rfl) (by kernel_rfl) (fun _ _ _ h => h) (Or.inl ⟨by rfl, ?_⟩) (by assumption) ?_
      rotate_left 1
      · (intro w' hSw; (try (replace hSw := hSw (by decide); dsimp only at hSw)); go_split_ands; go_simp; try with_reducible rfl)
      simp only [Act.put, List.getElem_toArray, List.getElem_cons_zero, List.getElem_cons_succ, List.setIfInBounds_toArray, List.set_cons_zero, List.set_cons_succ]
      refine WL.take (i := 5) (v := ?_) rfl (by kernel_rfl) (by kernel_rfl) (by kernel_rfl) (by kernel_rfl) (fun _ _ _ h => h) (Or.inl ⟨by rfl, ?_⟩) (by assumption) ?_
      rotate_left 1
      · (intro w' hSw; (try (replace hSw := hSw (by decide); dsimp only at hSw)); go_split_ands; go_simp; try with_reducible rfl)
      simp only [Act.put, List.getElem_toArray, List.getElem_cons_zero, List.getElem_cons_succ, List.setIfInBounds_toArray, List.set_cons_zero, List.set_cons_succ]
      refine WL.done (by kernel_rfl) ?_ _
      go_wp2_with fail
      go_meet
      exact ⟨rfl, (Below.refl _ _).drew⟩
    case rest =>
      obtain ⟨rfl, hbc⟩ := hcut
      have hgc := (hbc.block w.heap.size (Array.getElem?_eq_some_iff.1 HG7.out).1).trans HG7.out
      have HBC := Lib.hid (HB7.out.trans (hbc.mono HB7.out.size))
      have k0c := (hbc.cell (p := ⟨w6.heap.size, 0, none⟩) hl6).trans k0
      have k1c := (hbc.cell (p := ⟨w6.heap.size, 1, none⟩) hl6).trans k1
      have HGC := Lib.hid hgc
      clear hbc k0 k1 k2 k3 hgc hst HCRC HW1 HHD HB7 HG7
      by_cases h3 : K = V14
      · have d3 : ((K : Int) != (V14 : Int)) = false := by simp [h3]
        rw [d3]
        have hT := HT.out
        rw [if_neg (fun hne => hne h3)] at hT
        have HT2 := Lib.hid hT
        clear hT HT h3 d3
        obtain ⟨sec, hsec⟩ : ∃ sec, (128 + V10 + 34 * n + 127) / 128 = sec := ⟨_, rfl⟩
        have w36 : IntKind.i64.wrap ((128 : Int) + V10 + 34 * n + 128) = (128 : Int) + V10 + 34 * n + 128 := by rw [IntKind.wrap_i64]; omega
        have w37 : IntKind.i64.wrap ((128 : Int) + V10 + 34 * n + 128 - 1) = (128 : Int) + V10 + 34 * n + 128 - 1 := by rw [IntKind.wrap_i64]; omega
        have tq : ((128 : Int) + V10 + 34 * n + 128 - 1).tdiv 128 = (sec : Nat) := by rw [Int.tdiv_eq_ediv_of_nonneg (by omega)]; omega
        have w38 : IntKind.i64.wrap (sec : Int) = (sec : Int) := by rw [IntKind.wrap_i64]; omega
        have hlc : w.heap.size < wc.heap.size := (Array.getElem?_eq_some_iff.1 HGC.out).1
        have HSEC := Lib.hid hsec
        clear hsec
        obtain ⟨X, hX⟩ : ∃ X, X = wc := ⟨_, rfl⟩
        subst hX
        go_upto_region 9 with (fail)
        go_cut [8] from 41 to 50 (fun s8 wx => s8 = .pointer (some ⟨X.heap.size, 0, none⟩) ∧ wx.heap[X.heap.size]? = some (.cells #[.int .i64 (V4 : Nat), .int .i64 (sec : Nat), .slice none 0 0] 107 (0, 0)) ∧ Below X.heap.size X wx)
        case first =>
          have hbn : Below X.heap.size X (X.alloc (.cells #[.int .i64 (V4 : Nat), .int .i64 (sec : Nat), .slice none 0 0] 107)) := (Below.refl _ _).alloc (Nat.le_refl _) _
          have hgn : (X.alloc (.cells #[.int .i64 (V4 : Nat), .int .i64 (sec : Nat), .slice none 0 0] 107)).heap[X.heap.size]? = some (.cells #[.int .i64 (V4 : Nat), .int .i64 (sec : Nat), .slice none 0 0] 107 (0, 0)) := heap_alloc_new _ _
          go_wp2_with fail
          go_meet
          exact ⟨rfl, hgn, hbn⟩
        case rest =>
          obtain ⟨rfl, hg9, hb9⟩ := hcut
          have k1d := (hb9.cell (p := ⟨w6.heap.size, 1, none⟩) (block_lt_of_cell k1c)).trans k1c
          have hz9 := (hb9.block w.heap.size hlc).trans HGC.out
          have HB9 := Lib.hid (HBC.out.trans (hb9.mono HBC.out.size))
          have HG9 := Lib.hid hg9
          have HZ9 := Lib.hid hz9
          have hl9 : X.heap.size < wc.heap.size := (Array.getElem?_eq_some_iff.1 hg9).1
          clear hg9 hb9 hz9 k1c k0c HBC HGC w36 w37 w38 tq
          go_wp2_with fail
          go_loopw [9, 53] (fun va vi W => ∃ i, i ≤ n ∧ ScanRel bs (128 + V10) V4 sec w X.heap.size i W vi va) (fun _ vi _ => n - (intOf vi).toNat)
          case atStart =>
            exact ⟨0, Nat.zero_le _, rfl, rfl, fun j h => by omega, none, 0, Nat.le_refl _, own_nilV _ _ _ _, HG9.out, HZ9.out, HB9.out, hl9⟩
          case round =>
            obtain ⟨i, hi, rfl, rfl, hok, A4, c4, hic, ho, hgr, hzr, hbr, hl8⟩ := hrel
            have z0 : wr.cell? ⟨w.heap.size, 0, none⟩ = some (.int .i64 0) := by rw [cell_of_row _ _ _ _ _ _ hzr]; rfl
            have z1 : wr.cell? ⟨w.heap.size, 1, none⟩ = some (.int .i64 0) := by rw [cell_of_row _ _ _ _ _ _ hzr]; rfl
            have z2 : wr.cell? ⟨w.heap.size, 2, none⟩ = some (.slice none 0 0) := by rw [cell_of_row _ _ _ _ _ _ hzr]; rfl
            have f0 : wr.frozen? ⟨w.heap.size, 0, none⟩ = false := frozen_of_row _ _ _ _ _ hzr
            have f1 : wr.frozen? ⟨w.heap.size, 1, none⟩ = false := frozen_of_row _ _ _ _ _ hzr
            have f2 : wr.frozen? ⟨w.heap.size, 2, none⟩ = false := frozen_of_row _ _ _ _ _ hzr
            have HOK := Lib.hid hok
            have HO := Lib.hid ho
            have HGR := Lib.hid hgr
            have HZR := Lib.hid hzr
            have HBR := Lib.hid hbr
            have hat := atB_le bs (128 + V10) i hok
            have hwl : w.heap.size < X.heap.size := hlc
            clear hok ho hgr hzr hbr
            by_cases hlt : i < n
            · have dlt : decide ((i : Int) < (n : Int)) = true := decide_eq_true (by omega)
              obtain ⟨i0, hi0, hs0⟩ := info_u8''
              obtain ⟨A3, s3, r3⟩ := RN.mid (P := Tryz.prog) 25 5 .u8 Tryz.underlying25 hi0 hs0 A2 (34 * n) (c - (128 + V10)) (34 * i) (34 * (i + 1)) (by omega) (by omega) (by omega)
              rw [show 34 * (i + 1) - 34 * i = 34 by omega] at s3 r3
              rw [show ((34 * (i + 1) : Nat) : Int) = 34 * ((i : Int) + 1) by omega, show ((34 * i : Nat) : Int) = 34 * (i : Int) by omega] at s3
              have hr3 := r3 wr _ (by rw [List.length_take, List.length_drop]; omega) (HR2.out wr bs rfl (HR.out.below HBR.out))
              rw [rowB_of bs (128 + V10) n i hlt] at hr3
              have hl3 := rowB_len bs (128 + V10) i (by omega)
              have hb3 : ∀ x ∈ rowB bs (128 + V10) i, x < 256 := fun x hx => HB.out x (List.mem_of_mem_drop (List.mem_of_mem_take hx))
              have htf := TakeFixed_c A3 (c - (128 + V10) - 34 * i) 32 2 (rowB bs (128 + V10) i) wr hr3 (by rw [hl3]; omega) hb3 (by decide) (by decide) (by rw [hl3]; omega)
              rw [hl3, rowB_long] at htf
              have hLl : longB bs (128 + V10) i < 65536 := hdV_lt bs _ 2 (by omega) HB.out
              have s32 := fun W => RN.fore (P := Tryz.prog) 25 5 Tryz.underlying25 hi0 hs0 A3 34 (c - (128 + V10) - 34 * i) 32 (by omega) W
              replace s32 : ∀ W : World, (Instr.slice 25 (.slice A3 34 (c - (128 + V10) - 34 * i)) none (some (.int .i64 32)) none).run Tryz.prog W = .ok (.slice A3 32 (c - (128 + V10) - 34 * i)) W := s32
              have hsl : (slotB bs (128 + V10) i) = ((slotB bs (128 + V10) i).1, atB bs (128 + V10) i, longB bs (128 + V10) i) := rfl
              have hr4 := hr3.take 32 (by omega)
              rw [rowB_sum] at hr4
              have hql : (slotB bs (128 + V10) i).1.length = 32 := by rw [← rowB_sum, List.length_take, hl3]; rfl
              have hss := slotsB_succ bs (128 + V10) i
              have hokk : okB bs (128 + V10) i ↔ 1 ≤ longB bs (128 + V10) i ∧ longB bs (128 + V10) i ≤ 512 := Iff.rfl
              have hats : atB bs (128 + V10) (i + 1) = atB bs (128 + V10) i + longB bs (128 + V10) i := rfl
              obtain ⟨q, hq⟩ : ∃ q, (slotB bs (128 + V10) i).1 = q := ⟨_, rfl⟩
              obtain ⟨Ln, hLn⟩ : ∃ Ln, longB bs (128 + V10) i = Ln := ⟨_, rfl⟩
              obtain ⟨a, ha⟩ : ∃ a, atB bs (128 + V10) i = a := ⟨_, rfl⟩
              rw [hq] at hsl hr4 hql
              rw [hLn] at htf hLl hsl hokk hats
              rw [ha] at hsl hat hats ⊢
              obtain ⟨ad, hA3, had⟩ := hr4.addr (by omega)
              subst hA3
              have HTF := Lib.hid htf
              have HAD := Lib.hid (show Reads8 wr ad q from had)
              have HSL := Lib.hid hsl
              have HSS := Lib.hid hss
              have HOKK := Lib.hid hokk
              have HATS := Lib.hid hats
              have HQL := Lib.hid hql
              clear htf had hsl hss hokk hats hr4 hr3 r3 hi0 hs0 hl3 hb3 hq hLn ha hql
              have w34i : IntKind.i64.wrap ((34 : Int) * i) = (34 : Int) * i := by rw [IntKind.wrap_i64]; omega
              have wi1 : IntKind.i64.wrap ((i : Int) + 1) = (i : Int) + 1 := by rw [IntKind.wrap_i64]; omega
              have w34j : IntKind.i64.wrap ((34 : Int) * ((i : Int) + 1)) = (34 : Int) * ((i : Int) + 1) := by rw [IntKind.wrap_i64]; omega
              have wat : IntKind.i64.wrap ((a : Int) + Ln) = (a : Int) + Ln := by rw [IntKind.wrap_i64]; omega
              go_wp2_with fail
              refine HTF.out.mono ?_
              rintro e w12 ⟨rfl, hw12⟩
              subst hw12
              by_cases o1 : Ln < 1
              · have d1 : decide ((Ln : Int) < 1) = true := decide_eq_true (by omega)
                have hno : ¬ ∀ i < n, okB bs (128 + V10) i := fun h => by have := HOKK.out.1 (h i hlt); omega
                go_wp2_with fail
                rw [HPR.out, HT2.out, if_pos hno]
                refine parse_fail _ w12 w w.heap.size 2 _ _ _ (by rfl) (by rfl) HZR.out HBR.out (Nat.le_refl _)
              have d1 : decide ((Ln : Int) < 1) = false := decide_eq_false (by omega)
              by_cases o2 : 512 < Ln
              · have d2 : decide ((512 : Int) < (Ln : Int)) = true := decide_eq_true (by omega)
                have hno : ¬ ∀ i < n, okB bs (128 + V10) i := fun h => by have := HOKK.out.1 (h i hlt); omega
                go_wp2_with fail
                rw [HPR.out, HT2.out, if_pos hno]
                refine parse_fail _ w12 w w.heap.size 2 _ _ _ (by rfl) (by rfl) HZR.out HBR.out (Nat.le_refl _)
              have d2 : decide ((512 : Int) < (Ln : Int)) = false := decide_eq_false (by omega)
              go_upto_region 18 with (fail)
              have hbt := built_slot q (a : Int) (Ln : Int) HQL.out
              obtain ⟨D, hD⟩ : ∃ D, (q.map (encN .u8) ++ [Value.int .i64 (a : Int), Value.int .i64 (Ln : Int)]).toArray = D := ⟨_, rfl⟩
              obtain ⟨E, hE⟩ : ∃ E, (q.map (encN .u8)).toArray = E := ⟨_, rfl⟩
              rw [hD, hE] at hbt
              have hDs : D.size = 34 := by rw [← hD]; simp [HQL.out]
              have hD1 : D.all (·.oneCell') = true := by rw [← hD]; simp [encN, Value.oneCell']
              have hDl : D.toList = flatS [slotB bs (128 + V10) i] := by rw [← hD, HSL.out]; simp [flatS, slCells]
              have hin : (Tryz.prog.info? 61).map (·.size) = some (q.map (encN .u8)).length := by rw [List.length_map, HQL.out]; kernel_rfl
              have hatp : ∀ W, (Instr.arrayAt 61 (.slice (some ad) 32 (c - (128 + V10) - 34 * i))).run Tryz.prog W = .ok (.pointer (some ad)) W := fun W => run_arrayAt W 61 _ 32 _ _ _ Tryz.underlying61 (by omega)
              have u2 : w12.cell? ⟨X.heap.size, 2, none⟩ = some (.slice A4 i c4) := by rw [cell_of_row _ _ _ _ _ _ HGR.out]; rfl
              have HDs := Lib.hid hDs
              have HD1 := Lib.hid hD1
              have HDl := Lib.hid hDl
              have HIN := Lib.hid hin
              have HE := Lib.hid hE
              clear hD hE hDs hD1 hDl hin z0 z1 z2 f0 f1 f2 d1 d2 dlt
              go_cut [] from 76 to 87 (fun wx => ScanMid bs (128 + V10) V4 sec w X.heap.size (i + 1) wx)
              case first =>
                have htt : (fun w' : World => w'.cell? ⟨X.heap.size, 2, none⟩ = some (.slice A4 i c4) ∧ Reads8 w' ad q) w12.drew := ⟨u2, HAD.out⟩
                refine wp_region_late [1, 5] (fun w' => w'.cell? ⟨X.heap.size, 2, none⟩ = some (.slice A4 i c4) ∧ Reads8 w' ad q) (by kernel_rfl) htt (fun hT => ?_)
                refine WL.take (i := 0) (v := ?_) rfl (by kernel_rfl) (by kernel_rfl) (by kernel_rfl) (by kernel_rfl) (fun _ _ _ h => h) (Or.inl ⟨by rfl, ?_⟩) (by assumption) ?_
                rotate_left 1
                · (intro w' hSw; (try (replace hSw := hSw (by decide); dsimp only at hSw)); go_split_ands; go_simp; try with_reducible rfl)
                simp only [Act.put, List.getElem_toArray, List.getElem_cons_zero, List.getElem_cons_succ, List.setIfInBounds_toArray, List.set_cons_zero, List.set_cons_succ]
                refine WL.take (i := 1) (v := ?_) rfl (by kernel_rfl) (by kernel_rfl) (by kernel_rfl) (by kernel_rfl) (fun _ _ _ h => h) (Or.inl ⟨by rfl, ?_⟩) (by assumption) ?_
                rotate_left 1
                · (intro w' hSw; (try (replace hSw := hSw (by decide); dsimp only at hSw)); go_split_ands; go_simp; try with_reducible rfl)
                simp only [Act.put, List.getElem_toArray, List.getElem_cons_zero, List.getElem_cons_succ, List.setIfInBounds_toArray, List.set_cons_zero, List.set_cons_succ]
                refine WL.take (i := 2) (v := ?_) rfl (by kernel_rfl) (by kernel_rfl) (by kernel_rfl) (by kernel_rfl) (fun _ _ _ h => h) (Or.inl ⟨by rfl, ?_⟩) (by assumption) ?_
                rotate_left 1
                · (intro w' hSw; (try (replace hSw := hSw (by decide); dsimp only at hSw)); go_split_ands; go_simp; try with_reducible rfl)
                simp only [Act.put, List.getElem_toArray, List.getElem_cons_zero, List.getElem_cons_succ, List.setIfInBounds_toArray, List.set_cons_zero, List.set_cons_succ]
                refine WL.take (i := 3) (v := ?_) rfl (by kernel_rfl) (by kernel_rfl) (by kernel_rfl) (by kernel_rfl) (fun _ _ _ h => h) (Or.inl ⟨by rfl, ?_⟩) (by assumption) ?_
                rotate_left 1
                · (intro w' hSw; (try (replace hSw := hSw (by decide); dsimp only at hSw)); go_split_ands; go_simp; try with_reducible rfl)
                simp only [Act.put, List.getElem_toArray, List.getElem_cons_zero, List.getElem_cons_succ, List.setIfInBounds_toArray, List.set_cons_zero, List.set_cons_succ]
                refine WL.take (i := 4) (v := ?_) rfl (by kernel_rfl) (by kernel_rfl) (by kernel_rfl) (by kernel_rfl) (fun _ _ _ h => h) (Or.inl ⟨by rfl, ?_⟩) (by assumption) ?_
                rotate_left 1
                · (intro w' hSw; (try (replace hSw := hSw (by decide); dsimp only at hSw)); go_split_ands; go_simp; try with_reducible rfl)
                simp only [Act.put, List.getElem_toArray, List.getElem_cons_zero, List.getElem_cons_succ, List.setIfInBounds_toArray, List.set_cons_zero, List.set_cons_succ]
                refine WL.take (i := 5) (v := .agg E) rfl (by kernel_rfl) (by kernel_rfl) (by kernel_rfl) (by kernel_rfl) (fun _ _ _ h => h) (HE.out ▸ yieldsIf_load_at (by rfl) 61 (.tmp 80) (by rfl) ad (by rfl) (q.map (encN .u8)) _ (fun w' h => (h (by decide)).2) Tryz.underlying61 (by rfl) HIN.out) hT ?_
                simp only [Act.put, List.getElem_toArray, List.getElem_cons_zero, List.getElem_cons_succ, List.setIfInBounds_toArray, List.set_cons_zero, List.set_cons_succ]
                refine WL.take (i := 6) (v := ?_) rfl (by kernel_rfl) (by kernel_rfl) (by kernel_rfl) (by kernel_rfl) (fun _ _ _ h => h) (Or.inl ⟨by rfl, ?_⟩) (by assumption) ?_
                rotate_left 1
                · (intro w' hSw; (try (replace hSw := hSw (by decide); dsimp only at hSw)); go_split_ands; go_simp; try with_reducible rfl)
                simp only [Act.put, List.getElem_toArray, List.getElem_cons_zero, List.getElem_cons_succ, List.setIfInBounds_toArray, List.set_cons_zero, List.set_cons_succ]
                refine WL.take (i := 7) (v := ?_) rfl (by kernel_rfl) (by kernel_rfl) (by kernel_rfl) (by kernel_rfl) (fun _ _ _ h => h) (Or.inl ⟨by rfl, ?_⟩) (by assumption) ?_
                rotate_left 1
                · (intro w' hSw; (try (replace hSw := hSw (by decide); dsimp only at hSw)); go_split_ands; go_simp; try with_reducible rfl)
                simp only [Act.put, List.getElem_toArray, List.getElem_cons_zero, List.getElem_cons_succ, List.setIfInBounds_toArray, List.set_cons_zero, List.set_cons_succ]
                refine WL.take (i := 8) (v := .agg D) rfl (by kernel_rfl) (by kernel_rfl) (by kernel_rfl) (by kernel_rfl) (fun _ _ _ h => h) (yields_build3 (by rfl) 117 (.tmp 81) (.tmp 82) (.tmp 83) (by rfl) _ _ _ (by rfl) (by rfl) (by rfl) D hbt) hT ?_
                simp only [Act.put, List.getElem_toArray, List.getElem_cons_zero, List.getElem_cons_succ, List.setIfInBounds_toArray, List.set_cons_zero, List.set_cons_succ]
                refine WL.one (i := 9) (by kernel_rfl) rfl (fun K hK => ?_)
                rw [if_pos (by rfl)]
                refine wp_buildSlice1 105 117 (.tmp 84) (by rfl) D 34 Tryz.underlying105 infoS2 HDs.out (by decide) (by decide) (by rfl) ?_
                go_simp
                have hb5 : Below w12.heap.size w12 (w12.alloc (.cells D 117)).drew := ((Below.refl _ _).alloc (Nat.le_refl _) _).drew
                have hgx5 : (w12.alloc (.cells D 117)).drew.heap[w12.heap.size]? = some (.cells D 117 (0, 0)) := heap_alloc_new _ _
                refine hK.out _ _ (fun _ => ⟨(hb5.cell (p := ⟨X.heap.size, 2, none⟩) hl8).trans u2, fun j v hv => (hb5.cell (block_lt_of_cell (HAD.out j v hv))).trans (HAD.out j v hv)⟩) ?_
                clear hK K
                have ho5 := pw_own_below HO.out hb5
                have hs5 := hb5.size
                have hbB : Below (X.heap.size + 1) w12 (w12.alloc (.cells D 117)).drew := hb5.mono hl8
                generalize (w12.alloc (.cells D 117)).drew = w5 at hgx5 hbB ho5 hs5 ⊢
                refine WL.late (i := 10) (by kernel_rfl) rfl (by kernel_rfl) (fun K hK => ?_)
                refine step_append_slot (X.heap.size + 1) rfl (.tmp 77) (.tmp 85) (by rfl) (.slice A4 i c4) i _ D w12.heap.size 1 117 (0, 0) (by rfl) (by rfl) ho5 hgx5 HDs.out HD1.out (by omega) (by omega) ?_
                intro v7 w7 ho7 hg7
                have hb7 : Below (X.heap.size + 1) w12 w7 := hbB.grown hg7 (by omega) (fun j ej => own_base ho5 j ej)
                obtain ⟨A7, c7, e7, hc7, hr7, _⟩ := RV.ofOwn ho7
                subst e7
                have h7 := (hb7.block X.heap.size (by omega)).trans HGR.out
                have hz7 := (hb7.block w.heap.size (by omega)).trans HZR.out
                have K2 : w7.cell? ⟨X.heap.size, 2, none⟩ = some (.slice A4 i c4) := by rw [cell_of_row _ _ _ _ _ _ h7]; rfl
                have K3 : w7.frozen? ⟨X.heap.size, 2, none⟩ = false := frozen_of_row _ _ _ _ _ h7
                have hl7 : X.heap.size < w7.heap.size := (Array.getElem?_eq_some_iff.1 h7).1
                have hbw : Below w.heap.size w w7 := HBR.out.trans (hb7.mono (by omega))
                have H7 := Lib.hid h7
                have HZ7 := Lib.hid hz7
                have HO7 := Lib.hid ho7
                have HBW := Lib.hid hbw
                clear ho5 hg7 hgx5 ho7 hr7 hb7 h7 hz7 hbB hbw hb5
                go_simp
                refine hK.out _ _ ?_
                clear hK K
                refine WL.late (i := 11) (by kernel_rfl) rfl (by kernel_rfl) (fun K hK => ?_)
                go_simp
                refine hK.out _ _ ?_
                clear hK K
                refine WL.late (i := 12) (by kernel_rfl) rfl (by kernel_rfl) (fun K hK => ?_)
                go_simp
                refine hK.out _ _ ?_
                clear hK K
                refine WL.done (by kernel_rfl) ?_ _
                go_wp2_with fail
                go_meet
                have ho8 := HO7.out
                rw [HDl.out, ← flatS_append, ← HSS.out] at ho8
                exact ⟨A7, c7, hc7, own_move ho8 (fun k hk => heap_setCell_other _ _ _ _ (fun e => by have := own_base ho8 k hk; have e : k = X.heap.size := e; omega)), heap_setCell_same w7 X.heap.size 2 _ _ _ H7.out,
                  (heap_setCell_other _ _ _ _ (fun e => by have e : w.heap.size = X.heap.size := e; omega)).trans HZ7.out, HBW.out.setCell (by show w.heap.size ≤ X.heap.size; omega) _, by simpa using hl7⟩
              case rest =>
                have HCUT := Lib.hid hcut
                clear hcut
                go_wp2_with fail
                exact ⟨⟨i + 1, by omega, by first | rfl | go_num, by rw [HATS.out]; first | rfl | go_num | simp, fun j hj => by
                  by_cases e : j = i
                  · subst e; exact HOKK.out.2 ⟨by omega, by omega⟩
                  · exact HOK.out j (by omega), HCUT.out⟩, by simp [intOf]; omega⟩
            · have dlt : decide ((i : Int) < (n : Int)) = false := decide_eq_false (by omega)
              obtain rfl : i = n := by omega
              have hT := HT2.out
              rw [if_neg (fun h => h HOK.out)] at hT
              obtain ⟨a, ha⟩ : ∃ a, atB bs (128 + V10) i = a := ⟨_, rfl⟩
              rw [ha] at hT hat ⊢
              have g0 : wr.cell? ⟨X.heap.size, 0, none⟩ = some (.int .i64 (V4 : Nat)) := by rw [cell_of_row _ _ _ _ _ _ HGR.out]; rfl
              have g1 : wr.cell? ⟨X.heap.size, 1, none⟩ = some (.int .i64 (sec : Nat)) := by rw [cell_of_row _ _ _ _ _ _ HGR.out]; rfl
              have g2 : wr.cell? ⟨X.heap.size, 2, none⟩ = some (.slice A4 i c4) := by rw [cell_of_row _ _ _ _ _ _ HGR.out]; rfl
              by_cases ho : a ≠ 128 + V10
              · have e1 : ((a : Int) != (128 : Int) + (V10 : Int)) = true := by simp; omega
                rw [if_pos ho] at hT
                have HT3 := Lib.hid hT
                clear hT ho ha
                go_wp2_with fail
                rw [HPR.out, HT3.out]
                refine parse_fail _ wr w w.heap.size 4 _ _ _ (by rfl) (by rfl) HZR.out HBR.out (Nat.le_refl _)
              · have e1 : ((a : Int) != (128 : Int) + (V10 : Int)) = false := by simp; omega
                rw [if_neg ho] at hT
                have HT3 := Lib.hid hT
                clear hT ho ha
                go_wp2_with fail
                have hlen := slotsB_len bs (128 + V10) i
                obtain ⟨A9, c9, e9, hc9, hr9, _⟩ := RV.ofOwn HO.out
                injection e9 with e9 _ _
                subst e9
                have hzw : w.heap.size ≤ w.heap.size := Nat.le_refl _
                rw [HPR.out, HT3.out, HSEC.out]
                refine parse_ret _ _ w w.heap.size (0, V4, sec, slotsB bs (128 + V10) i) A4 c4 (by rfl) (by rfl) ?_ ?_ (((HBR.out.setCell hzw _).setCell hzw _).setCell hzw _)
                · show _ = some (Obj.cells #[.int .i64 (V4 : Nat), .int .i64 (sec : Nat), .slice A4 (slotsB bs (128 + V10) i).length c4] 107 (0, 0))
                  rw [hlen]
                  exact bin_set3 wr w.heap.size _ _ _ _ _ _ HZR.out
                · show RV 117 _ A4 (slotsB bs (128 + V10) i).length (flatS (slotsB bs (128 + V10) i))
                  rw [hlen]
                  have t1 := heap_setCell_same wr w.heap.size 0 _ _ (.int .i64 (V4 : Nat)) HZR.out
                  have t2 := heap_setCell_same _ w.heap.size 1 _ _ (.int .i64 (sec : Nat)) t1
                  exact RV.setOther (RV.setOther (RV.setOther hr9 HZR.out (by decide)) t1 (by decide)) t2 (by decide)
      · have d3 : ((K : Int) != (V14 : Int)) = true := by simp; omega
        rw [d3]
        have hT := HT.out
        rw [if_pos h3] at hT
        have HT2 := Lib.hid hT
        have z0 : wc.cell? ⟨w.heap.size, 0, none⟩ = some (.int .i64 0) := by rw [cell_of_row _ _ _ _ _ _ HGC.out]; rfl
        have z1 : wc.cell? ⟨w.heap.size, 1, none⟩ = some (.int .i64 0) := by rw [cell_of_row _ _ _ _ _ _ HGC.out]; rfl
        have z2 : wc.cell? ⟨w.heap.size, 2, none⟩ = some (.slice none 0 0) := by rw [cell_of_row _ _ _ _ _ _ HGC.out]; rfl
        have f0 : wc.frozen? ⟨w.heap.size, 0, none⟩ = false := frozen_of_row _ _ _ _ _ HGC.out
        have f1 : wc.frozen? ⟨w.heap.size, 1, none⟩ = false := frozen_of_row _ _ _ _ _ HGC.out
        have f2 : wc.frozen? ⟨w.heap.size, 2, none⟩ = false := frozen_of_row _ _ _ _ _ HGC.out
        clear hT HT h3 d3
        go_wp2_with fail
        rw [HPR.out, HT2.out]
        refine parse_fail _ wc w w.heap.size 5 _ _ _ (by rfl) (by rfl) HGC.out HBC.out (Nat.le_refl _)
  · have e0 : (h != 0) = true := by simp [h0]
    have k0 : w2.cell? ⟨w.heap.size, 0, none⟩ = some (.int .i64 0) := by rw [cell_of_row _ _ _ _ _ _ HG2.out]; rfl
    have k1 : w2.cell? ⟨w.heap.size, 1, none⟩ = some (.int .i64 0) := by rw [cell_of_row _ _ _ _ _ _ HG2.out]; rfl
    have k2 : w2.cell? ⟨w.heap.size, 2, none⟩ = some (.slice none 0 0) := by rw [cell_of_row _ _ _ _ _ _ HG2.out]; rfl
    have f0 : w2.frozen? ⟨w.heap.size, 0, none⟩ = false := frozen_of_row _ _ _ _ _ HG2.out
    have f1 : w2.frozen? ⟨w.heap.size, 1, none⟩ = false := frozen_of_row _ _ _ _ _ HG2.out
    have f2 : w2.frozen? ⟨w.heap.size, 2, none⟩ = false := frozen_of_row _ _ _ _ _ HG2.out
    go_wp2_with fail
    have hP : parseP bs = (h, 0, 0, []) := by unfold parseP; rw [if_pos (by rw [HH.out]; exact h0), HH.out]
    rw [hP]
    refine parse_fail _ w2 w w.heap.size h _ _ _ (by rfl) (by rfl) HG2.out HB2.out (Nat.le_refl _)
end Go.Proofs.YtbcamfbbooggfaaGreat.F
