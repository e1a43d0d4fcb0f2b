/- What a container's bytes say, in plain Lean; Parse. -/
import Derived.Test.YtejmklfhcealnaaM1
import Derived.Test.YtejmklfhcealnaaM3
import Derived.Deep.MidRow
import Derived.Deep.QuietTactic
import Derived.BigQuiet
import Derived.Laws.Cover3
import Derived.Test.YtejmklfhcealnaaM5
set_option linter.unusedVariables false
set_option linter.unusedSimpArgs false
namespace Go.Proofs.Ytejmklfhcealnaa.F
open Go.RowKit Go.Proofs.YtejmklfhcealnaaW.PrintWords

/-- How long the chunk of a table's row is. -/
def longB (bs : List Nat) (f i : Nat) : Nat := hdV bs (f + 34 * i + 32) 2
/-- Where it begins. -/
def atB (bs : List Nat) (f : Nat) : Nat → Nat
  | 0 => 128
  | i + 1 => atB bs f i + longB bs f i
def slotB (bs : List Nat) (f i : Nat) : Sl := ((bs.drop (f + 34 * i)).take 32, atB bs f i, longB bs f i)
def slotsB (bs : List Nat) (f n : Nat) : List Sl := (List.range n).map (slotB bs f)
def okB (bs : List Nat) (f i : Nat) : Prop := 1 ≤ longB bs f i ∧ longB bs f i ≤ 512
instance (bs : List Nat) (f i : Nat) : Decidable (okB bs f i) := inferInstanceAs (Decidable (_ ∧ _))
/-- How a container's bytes read from the table on. -/
def tableB (bs : List Nat) (f n id s : Nat) : Int × Nat × Nat × List Sl :=
  if crcMore 0 ((bs.drop f).take (34 * n)) ≠ s then (5, 0, 0, [])
  else if ¬ ∀ i < n, okB bs f i then (2, 0, 0, [])
  else if atB bs f n ≠ f then (4, 0, 0, [])
  else (0, id, (f + 34 * n + 127) / 128, slotsB bs f n)
/-- What a container's bytes say, or why not. -/
def parseP (bs : List Nat) : Int × Nat × Nat × List Sl :=
  if headN bs ≠ 0 then (headN bs, 0, 0, []) else tableB bs (128 + hdV bs 10 4) (hdV bs 8 2) (hdV bs 4 4) (hdV bs 14 4)
theorem slotsB_succ (bs : List Nat) (f n : Nat) : slotsB bs f (n + 1) = slotsB bs f n ++ [slotB bs f n] := by
  unfold slotsB
  rw [List.range_succ, List.map_append]
  rfl
theorem slotsB_len (bs : List Nat) (f n : Nat) : (slotsB bs f n).length = n := by simp [slotsB]
theorem headN_zero {bs : List Nat} (h : headN bs = 0) : 128 ≤ bs.length ∧ bs.take 4 = binN ∧ hdV bs 18 4 = crcMore 0 (bs.take 18) ∧ (((bs.drop 22).take 106).any (fun x => decide (x ≠ 0))) = false ∧ hdV bs 4 4 < 4096 ∧ hdV bs 8 2 ≤ 64 ∧ 128 + hdV bs 10 4 + 34 * hdV bs 8 2 ≤ bs.length := by
  unfold headN at h
  split at h
  · simp at h
  split at h
  · simp at h
  split at h
  · simp at h
  split at h
  · simp at h
  split at h
  · simp at h
  split at h
  · simp at h
  rename_i a b c d e f
  exact ⟨by omega, Decidable.not_not.1 b, Decidable.not_not.1 c, by simpa using d, by omega, by omega, by omega⟩
/-- A bin by value. -/
def BinV (W : World) (v : Value) (id sec : Nat) (l : List Sl) : Prop := ∃ A c, v = .agg #[.int .i64 (id : Nat), .int .i64 (sec : Nat), .slice A l.length c] ∧ RV 38 W A l.length (flatS l)
def ParseAns (r : Int × Nat × Nat × List Sl) (w : World) (e : Ending) (w' : World) : Prop :=
  ∃ v, e = .returned (.tuple #[v, .int .i64 r.1]) ∧ BinV w' v r.2.1 r.2.2.1 r.2.2.2 ∧ Below w.heap.size w w'
theorem binV_nil (W : World) : BinV W (.agg #[.int .i64 0, .int .i64 0, .slice none 0 0]) 0 0 [] := ⟨none, 0, rfl, RV.nil _ _ _ _⟩

def ScanMid (bs : List Nat) (f V4 sec : Nat) (w : World) (g8 i : Nat) (W : World) : Prop :=
  ∃ A c, i ≤ c ∧ W.ownsRow (g8 + 1) 38 34 (.slice A i c) i (flatS (slotsB bs f i)) ∧
    W.heap[g8]? = some (.cells #[.int .i64 (V4 : Nat), .int .i64 (sec : Nat), .slice A i c] 53 (0, 0)) ∧
    W.heap[w.heap.size]? = some (.cells #[.int .i64 0, .int .i64 0, .slice none 0 0] 53 (0, 0)) ∧ Below w.heap.size w W ∧ g8 < W.heap.size
/-- An array is loaded from wherever its cells can be read. -/
theorem yieldsIf_load_at {P : Program} {ops : Array Oper} {S : World → Prop} {op : Oper} {a : Act} (hw : Region.wanted op (yielded ops a.tmps) = true) (ty : TypeId) (x : Operand) (ho : op.op = .load ty x)
    (ad : Addr) (hx : a.eval x = .pointer (some ad)) (cs : List Value) (d : TypeDesc) (hS : ∀ w, S w → ∀ j v, cs[j]? = some v → w.cell? (ad.add j) = some v)
    (hu : P.underlying ty = some d) (hd : d.isRow = true) (hi : (P.info? ty).map (·.size) = some cs.length) : YieldsIf P ops S op (.agg cs.toArray) a :=
  .inl ⟨hw, fun w hw' => by
    have hl : (loadCells ad cs.length).run P w = .ok cs.toArray w := run_loadCells_list (P := P) w ad cs (hS w hw')
    have hv : (loadVar ty ad).run P w = .ok (.agg cs.toArray) w := by
      cases hq : P.info? ty with
      | none => simp [hq] at hi
      | some i =>
        have hs : i.size = cs.length := by simpa [hq] using hi
        have hagg : (isAgg ty).run P w = .ok true w := by
          unfold isAgg
          rw [Sem.run_bind, run_underlying hu w]
          cases d <;> simp_all
        simp [loadVar, Sem.run_bind, hagg, sizeOf, typeInfo, hq, hs, hl]
    unfold execOp
    simp only [ho, hx, Instr.loadAt, Instr.sureAddr, Sem.run_bind, Sem.run_pure, Result.andThen_ok, hv]⟩
theorem RN.addr {W : World} {A : Option Addr} {p : List Nat} (h : RN .u8 W A p) (hp : 0 < p.length) : ∃ ad, A = some ad ∧ ∀ j v, (p.map (encN .u8))[j]? = some v → W.cell? (ad.add j) = some v := by
  obtain ⟨ad, e, _⟩ := h.at 0 hp
  refine ⟨ad, e, fun j v hv => ?_⟩
  rw [List.getElem?_map] at hv
  obtain ⟨x, hx, rfl⟩ := Option.map_eq_some_iff.1 hv
  obtain ⟨hj, rfl⟩ := List.getElem?_eq_some_iff.1 hx
  obtain ⟨ad', e', hc⟩ := h.at j hj
  rw [e] at e'
  injection e' with e'
  rw [e', hc]
  rfl
/-- A row of the table. -/
def rowB (bs : List Nat) (f i : Nat) : List Nat := (bs.drop (f + 34 * i)).take 34
theorem rowB_of (bs : List Nat) (f n i : Nat) (h : i < n) : ((((bs.drop f).take (34 * n)).drop (34 * i)).take 34) = rowB bs f i := by
  unfold rowB
  rw [List.drop_take, List.drop_drop, List.take_take, Nat.min_eq_left (by omega)]
theorem rowB_long (bs : List Nat) (f i : Nat) : hdV (rowB bs f i) 32 2 = longB bs f i := by
  unfold hdV longB rowB hdV
  rw [List.drop_take, List.drop_drop, List.take_take, Nat.min_eq_left (by omega)]
theorem rowB_sum (bs : List Nat) (f i : Nat) : (rowB bs f i).take 32 = (slotB bs f i).1 := by
  unfold rowB slotB
  rw [List.take_take, Nat.min_eq_left (by omega)]
theorem rowB_len (bs : List Nat) (f i : Nat) (h : f + 34 * i + 34 ≤ bs.length) : (rowB bs f i).length = 34 := by
  unfold rowB
  rw [List.length_take, List.length_drop]
  omega
theorem atB_le (bs : List Nat) (f i : Nat) (h : ∀ j < i, okB bs f j) : atB bs f i ≤ 128 + 512 * i := by
  induction i with
  | zero => exact Nat.le_refl _
  | succ i ih =>
    have h1 := ih (fun j hj => h j (by omega))
    have h2 := (h i (by omega)).2
    show atB bs f i + longB bs f i ≤ _
    omega
def Reads8 (W : World) (ad : Addr) (q : List Nat) : Prop := ∀ j v, (q.map (encN .u8))[j]? = some v → W.cell? (ad.add j) = some v
/-- The scan of the table, i rows behind it. -/
def ScanRel (bs : List Nat) (f V4 sec : Nat) (w : World) (g8 i : Nat) (W : World) (vi va : Value) : Prop :=
  vi = .int .i64 (i : Nat) ∧ va = .int .i64 (atB bs f i : Nat) ∧ (∀ j < i, okB bs f j) ∧ ScanMid bs f V4 sec w g8 i W
abbrev Z4 : Array Value := #[Value.int IntKind.i64 0, Value.int IntKind.i64 0, Value.int IntKind.i64 0, Value.int IntKind.i64 0]
theorem store4 (W : World) (C : Array Value) (hsz : C.size = 4) (hone : C.all (·.oneCell') = true) :
    Sem.run Try.prog (storeCells ⟨W.heap.size, 0, none⟩ C.toList) (W.alloc (Obj.cells Z4 83)) = .ok () ((W.alloc (Obj.cells Z4 83)).setRow W.heap.size C) := by
  have := run_storeCells_at (P := Try.prog) W.heap.size 0 83 C.toList 0 _ _ (heap_alloc_new W (.cells Z4 83)) (by simp [hsz]) (fun v hv => Array.all_eq_true_iff_forall_mem.1 hone v (Array.mem_toList_iff.1 hv))
  rw [this]
  congr 2
  simp [hsz]
theorem bin_set3 (W : World) (g : Nat) (a b c x y z : Value) (hg : W.heap[g]? = some (.cells #[x, y, z] 53 (0, 0))) :
    (((W.setCell ⟨g, 0, none⟩ a).setCell ⟨g, 1, none⟩ b).setCell ⟨g, 2, none⟩ c).heap[g]? = some (.cells #[a, b, c] 53 (0, 0)) :=
  heap_setCell_same _ g 2 _ _ c (heap_setCell_same _ g 1 _ _ b (heap_setCell_same _ g 0 _ _ a hg))
theorem info_bin : (Try.prog.info? 53).map (·.size) = some 3 := by kernel_rfl
theorem parse_ret (tmps : Array Value) (W w : World) (g : Nat) (r : Int × Nat × Nat × List Sl) (A : Option Addr) (c : Nat) (hp : tmps.getD 2 undef = .pointer (some ⟨g, 0, none⟩)) (he : tmps.getD 3 undef = .int .i64 r.1)
    (hg : W.heap[g]? = some (.cells #[.int .i64 (r.2.1 : Nat), .int .i64 (r.2.2.1 : Nat), .slice A r.2.2.2.length c] 53 (0, 0))) (hr : RV 38 W A r.2.2.2.length (flatS r.2.2.2)) (hb : Below w.heap.size w W) :
    bodyPost Try.prog Try.f24 (ParseAns r w) .ret { tmps := tmps, defers := [] } W := by
  have h := results_ct (P := Try.prog) (fn := Try.f24) rfl tmps W g 53 _ (0, 0) _ hp hg Try.underlying53 rfl info_bin
  rw [he] at h
  exact bodyPost_ret h rfl ⟨_, rfl, ⟨A, c, rfl, hr⟩, hb⟩
theorem parse_fail (tmps : Array Value) (W w : World) (g : Nat) (E : Int) (x y z : Value) (hp : tmps.getD 2 undef = .pointer (some ⟨g, 0, none⟩)) (he : tmps.getD 3 undef = .int .i64 E)
    (hg : W.heap[g]? = some (.cells #[x, y, z] 53 (0, 0))) (hb : Below w.heap.size w W) (hle : w.heap.size ≤ g) :
    bodyPost Try.prog Try.f24 (ParseAns (E, 0, 0, []) w) .ret { tmps := tmps, defers := [] } (((W.setCell ⟨g, 0, none⟩ (.int .i64 0)).setCell ⟨g, 1, none⟩ (.int .i64 0)).setCell ⟨g, 2, none⟩ (.slice none 0 0)) :=
  parse_ret tmps _ w g (E, 0, 0, []) none 0 hp he (bin_set3 W g _ _ _ _ _ _ hg) (RV.nil _ _ _ _) (((hb.setCell hle _).setCell hle _).setCell hle _)

set_option maxRecDepth 20000 in
set_option maxHeartbeats 8000000 in
theorem Parse_c (A : Option Addr) (c : Nat) (bs : List Nat) (w : World) (hr : RN .u8 w A bs) (hcap : bs.length ≤ c) (hb : ∀ x ∈ bs, x < 256) :
    Calls Try.prog 24 #[.slice A bs.length c] w (ParseAns (parseP bs) w) := by
  have hm := hr.max
  have hbx : Below w.heap.size w (w.alloc (.cells #[.int .i64 0, .int .i64 0, .slice none 0 0] 53)) := (Below.refl _ _).alloc (Nat.le_refl _) _
  have hgx : (w.alloc (.cells #[.int .i64 0, .int .i64 0, .slice none 0 0] 53)).heap[w.heap.size]? = some (.cells #[.int .i64 0, .int .i64 0, .slice none 0 0] 53 (0, 0)) := heap_alloc_new _ _
  have hhd := headed_c A c bs _ (hr.below hbx) hcap hb
  obtain ⟨W1, hW1⟩ : ∃ W1, w.alloc (.cells #[.int .i64 0, .int .i64 0, .slice none 0 0] 53) = W1 := ⟨_, rfl⟩
  have HW1 := Lib.hid hW1
  rw [hW1] at hbx hgx hhd
  have hs1 := hbx.size
  have HR := Lib.hid hr
  have HHD := Lib.hid hhd
  have HBX := Lib.hid hbx
  have HGX := Lib.hid hgx
  have HB := Lib.hid hb
  obtain ⟨h, hh⟩ : ∃ h, headN bs = h := ⟨_, rfl⟩
  rw [hh] at HHD
  have HH := Lib.hid hh
  clear hr hbx hgx hhd hW1 hh hb
  go_enter Try.func24, Try.ntmps24
  go_wp2_with fail
  rw [HW1.out]
  refine HHD.out.mono ?_
  rintro e w2 ⟨rfl, hb2⟩
  have hg2 := (hb2.block w.heap.size (Array.getElem?_eq_some_iff.1 HGX.out).1).trans HGX.out
  have HB2 := Lib.hid (HBX.out.trans (hb2.mono hs1))
  have HG2 := Lib.hid hg2
  clear hb2 hg2
  by_cases h0 : h = 0
  · subst h0
    obtain ⟨q1, q2, q3, q4, q5, q6, q7⟩ := headN_zero HH.out
    have hnm := numbers_c A c bs w2 (HR.out.below HB2.out) hcap HB.out q1
    have hv4 := hdV_lt bs 4 4 (by omega) HB.out
    have hv8 := hdV_lt bs 8 2 (by omega) HB.out
    have hv10 := hdV_lt bs 10 4 (by omega) HB.out
    have hv14 := hdV_lt bs 14 4 (by omega) HB.out
    have hP : parseP bs = tableB bs (128 + hdV bs 10 4) (hdV bs 8 2) (hdV bs 4 4) (hdV bs 14 4) := by unfold parseP; rw [if_neg (by rw [HH.out]; simp)]
    obtain ⟨V4, e4⟩ : ∃ V, hdV bs 4 4 = V := ⟨_, rfl⟩
    obtain ⟨n, e8⟩ : ∃ V, hdV bs 8 2 = V := ⟨_, rfl⟩
    obtain ⟨V10, e10⟩ : ∃ V, hdV bs 10 4 = V := ⟨_, rfl⟩
    obtain ⟨V14, e14⟩ : ∃ V, hdV bs 14 4 = V := ⟨_, rfl⟩
    rw [e4] at hnm hv4 hP q5
    rw [e8] at hnm hv8 hP q6 q7
    rw [e10] at hnm hv10 hP q7
    rw [e14] at hnm hv14 hP
    replace hv10 : V10 < 4294967296 := hv10
    replace hv14 : V14 < 4294967296 := hv14
    have HP := Lib.hid hP
    obtain ⟨C, hC⟩ : ∃ C, c4 V4 n V10 V14 = C := ⟨_, rfl⟩
    have hone : C.all (·.oneCell') = true := by rw [← hC]; simp [c4, Value.oneCell']
    have hsz : C.size = 4 := by rw [← hC]; rfl
    have c0 : C[0]? = some (.int .i64 (V4 : Nat)) := by rw [← hC]; rfl
    have c1 : C[1]? = some (.int .i64 (n : Nat)) := by rw [← hC]; rfl
    have c2 : C[2]? = some (.int .i64 (V10 : Nat)) := by rw [← hC]; rfl
    have c3 : C[3]? = some (.int .i64 (V14 : Nat)) := by rw [← hC]; rfl
    rw [hC] at hnm
    have HNM := Lib.hid hnm
    clear hP hnm hC e4 e8 e10 e14 hv4 hv8
    go_wp2_with fail
    refine HNM.out.mono ?_
    rintro e w6 ⟨rfl, hb6⟩
    have hst := store4 w6 C hsz hone
    have hnew : (w6.alloc (Obj.cells Z4 83)).heap[w6.heap.size]? = some (Obj.cells Z4 83 (0, 0)) := heap_alloc_new _ _
    have hb7 : Below w2.heap.size w2 ((w6.alloc (Obj.cells Z4 83)).setRow w6.heap.size C) := below_setRow (hb6.alloc hb6.size _) hb6.size _
    have hrow := setRow_heap _ w6.heap.size _ C _ _ hnew
    obtain ⟨W7, hW7⟩ : ∃ W7, (w6.alloc (Obj.cells Z4 83)).setRow w6.heap.size C = W7 := ⟨_, rfl⟩
    rw [hW7] at hst hb7 hrow
    have hg7 := (hb7.block w.heap.size (Array.getElem?_eq_some_iff.1 HG2.out).1).trans HG2.out
    have hsz7 : w2.heap.size ≤ w6.heap.size := hb6.size
    have hb27 := HB2.out.trans (hb7.mono HB2.out.size)
    have hl6 : w6.heap.size < W7.heap.size := (Array.getElem?_eq_some_iff.1 hrow).1
    have k0 : W7.cell? ⟨w6.heap.size, 0, none⟩ = some (.int .i64 (V4 : Nat)) := by rw [cell_of_row _ _ _ _ _ _ hrow]; exact c0
    have k1 : W7.cell? ⟨w6.heap.size, 1, none⟩ = some (.int .i64 (n : Nat)) := by rw [cell_of_row _ _ _ _ _ _ hrow]; exact c1
    have k2 : W7.cell? ⟨w6.heap.size, 2, none⟩ = some (.int .i64 (V10 : Nat)) := by rw [cell_of_row _ _ _ _ _ _ hrow]; exact c2
    have k3 : W7.cell? ⟨w6.heap.size, 3, none⟩ = some (.int .i64 (V14 : Nat)) := by rw [cell_of_row _ _ _ _ _ _ hrow]; exact c3
    obtain ⟨i0, hi0, hs0⟩ := info_u8''
    obtain ⟨A2, s2, r2⟩ := RN.mid (P := Try.prog) 27 5 .u8 Try.underlying27 hi0 hs0 A bs.length c (128 + V10) (128 + V10 + 34 * n) (by omega) (by omega) hcap
    rw [show 128 + V10 + 34 * n - (128 + V10) = 34 * n by omega] at s2 r2
    rw [show ((128 + V10 + 34 * n : Nat) : Int) = 128 + (V10 : Int) + 34 * (n : Int) by omega, show ((128 + V10 : Nat) : Int) = 128 + (V10 : Int) by omega] at s2
    have HB7 := Lib.hid hb27
    have HG7 := Lib.hid hg7
    have HR2 := Lib.hid r2
    clear hnew hb7 hrow hb6 hW7 hg7 c0 c1 c2 c3 hi0 hs0 r2 hb27 HNM HG2
    have w1 : IntKind.i64.wrap ((128 : Int) + V10) = (128 : Int) + V10 := by rw [IntKind.wrap_i64]; omega
    have w34 : IntKind.i64.wrap ((34 : Int) * n) = (34 : Int) * n := by rw [IntKind.wrap_i64]; omega
    have w35 : IntKind.i64.wrap ((128 : Int) + V10 + 34 * n) = (128 : Int) + V10 + 34 * n := by rw [IntKind.wrap_i64]; omega
    go_wp2_with fail
    have hcrc : ∀ W, Below W7.heap.size W7 W → Calls Try.prog 31 #[.slice A2 (34 * n) (c - (128 + V10))] W fun e w' => e = .returned (.int .u32 (crcMore 0 ((bs.drop (128 + V10)).take (34 * n)) : Nat)) ∧ w' = W := fun W hW => by
      have := Crc_c A2 (c - (128 + V10)) ((bs.drop (128 + V10)).take (34 * n)) W (HR2.out W bs rfl (HR.out.below (HB7.out.trans (hW.mono HB7.out.size)))) (fun x hx => HB.out x (List.mem_of_mem_drop (List.mem_of_mem_take hx)))
      rwa [show ((bs.drop (128 + V10)).take (34 * n)).length = 34 * n by rw [List.length_take, List.length_drop]; omega] at this
    have hcl := crcMore_lt 0 ((bs.drop (128 + V10)).take (34 * n))
    have hT : tableB bs (128 + V10) n V4 V14 = if crcMore 0 ((bs.drop (128 + V10)).take (34 * n)) ≠ V14 then (5, 0, 0, []) else if ¬ ∀ i < n, okB bs (128 + V10) i then (2, 0, 0, []) else if atB bs (128 + V10) n ≠ 128 + V10 then (4, 0, 0, []) else (0, V4, (128 + V10 + 34 * n + 127) / 128, slotsB bs (128 + V10) n) := rfl
    obtain ⟨K, hK⟩ : ∃ K, crcMore 0 ((bs.drop (128 + V10)).take (34 * n)) = K := ⟨_, rfl⟩
    rw [hK] at hcrc hcl hT
    obtain ⟨R, hR⟩ : ∃ R, tableB bs (128 + V10) n V4 V14 = R := ⟨_, rfl⟩
    rw [hR] at hT
    have HPR := Lib.hid (HP.out.trans hR)
    have HT := Lib.hid hT
    have HCRC := Lib.hid hcrc
    clear hcrc hT hR hK HP
    have HC7 : IntKind.i64.wrap (K : Int) = (K : Int) := by rw [IntKind.wrap_i64]; omega
    go_cut [39] from 34 to 39 (fun s39 wx => s39 = .bool ((K : Int) != (V14 : Int)) ∧ Below W7.heap.size W7 wx)
    case first =>
      refine wp_region_late [4] (fun w' => w'.cell? ⟨w6.heap.size, 3, none⟩ = some (.int .i64 (V14 : Nat))) (by kernel_rfl) k3 (fun hT => ?_)
      refine WL.take (i := 0) (v := ?_) rfl (by kernel_rfl) (by kernel_rfl) (by kernel_rfl) (by kernel_rfl) (fun _ _ _ h => h) (Or.inl ⟨by rfl, ?_⟩) (by assumption) ?_
      rotate_left 1
      · (intro w' hSw; (try (replace hSw := hSw (by decide); dsimp only at hSw)); go_split_ands; go_simp; try with_reducible rfl)
      simp only [Act.put, List.getElem_toArray, List.getElem_cons_zero, List.getElem_cons_succ, List.setIfInBounds_toArray, List.set_cons_zero, List.set_cons_succ]
      refine WL.take (i := 3) (v := ?_) rfl (by kernel_rfl) (by kernel_rfl) (by kernel_rfl) (by kernel_rfl) (fun _ _ _ h => h) (Or.inl ⟨by rfl, ?_⟩) (by assumption) ?_
      rotate_left 1
      · (intro w' hSw; (try (replace hSw := hSw (by decide); dsimp only at hSw)); go_split_ands; go_simp; try with_reducible rfl)
      simp only [Act.put, List.getElem_toArray, List.getElem_cons_zero, List.getElem_cons_succ, List.setIfInBounds_toArray, List.set_cons_zero, List.set_cons_succ]
      refine WL.take (i := 4) (v := ?_) rfl (by kernel_rfl) (by kernel_rfl) (by kernel_rfl) (by kernel_rfl) (fun _ _ _ h => h) (Or.inl ⟨by rfl, ?_⟩) (by assumption) ?_
      rotate_left 1
      · (intro w' hSw; (try (replace hSw := hSw (by decide); dsimp only at hSw)); go_split_ands; go_simp; try with_reducible rfl)
      simp only [Act.put, List.getElem_toArray, List.getElem_cons_zero, List.getElem_cons_succ, List.setIfInBounds_toArray, List.set_cons_zero, List.set_cons_succ]
      refine WL.one (i := 1) (by kernel_rfl) rfl (fun K hK => ?_)
      go_simp
      go_at_call 31
      refine (HCRC.out _ (Below.refl _ _).drew).mono ?_
      rintro e w8 ⟨rfl, hw8⟩
      subst hw8
      go_simp
      refine hK.out _ _ (fun _ => k3) ?_
      clear hK K
      have k3' : W7.drew.cell? ⟨w6.heap.size, 3, none⟩ = some (.int .i64 (V14 : Nat)) := k3
      refine WL.take (i := 2) (v := ?_) rfl (by kernel_rfl) (by kernel_rfl) (by kernel_rfl) (by kernel_rfl) (fun _ _ _ h => h) (Or.inl ⟨by rfl, ?_⟩) (by assumption) ?_
      rotate_left 1
      · (intro w' hSw; (try (replace hSw := hSw (by decide); dsimp only at hSw)); go_split_ands; go_simp; try with_reducible rfl)
      simp only [Act.put, List.getElem_toArray, List.getElem_cons_zero, List.getElem_cons_succ, List.setIfInBounds_toArray, List.set_cons_zero, List.set_cons_succ]
      refine WL.take (i := 5) (v := ?_) rfl (by kernel_rfl) (by kernel_rfl) (by kernel_rfl) (by kernel_rfl) (fun _ _ _ h => h) (Or.inl ⟨by rfl, ?_⟩) (by assumption) ?_
      rotate_left 1
      · (intro w' hSw; (try (replace hSw := hSw (by decide); dsimp only at hSw)); go_split_ands; go_simp; try with_reducible rfl)
      simp only [Act.put, List.getElem_toArray, List.getElem_cons_zero, List.getElem_cons_succ, List.setIfInBounds_toArray, List.set_cons_zero, List.set_cons_succ]
      refine WL.done (by kernel_rfl) ?_ _
      go_wp2_with fail
      go_meet
      exact ⟨rfl, (Below.refl _ _).drew⟩
    case rest =>
      obtain ⟨rfl, hbc⟩ := hcut
      have hgc := (hbc.block w.heap.size (Array.getElem?_eq_some_iff.1 HG7.out).1).trans HG7.out
      have HBC := Lib.hid (HB7.out.trans (hbc.mono HB7.out.size))
      have k0c := (hbc.cell (p := ⟨w6.heap.size, 0, none⟩) hl6).trans k0
      have k1c := (hbc.cell (p := ⟨w6.heap.size, 1, none⟩) hl6).trans k1
      have HGC := Lib.hid hgc
      clear hbc k0 k1 k2 k3 hgc hst HCRC HW1 HHD HB7 HG7
      by_cases h3 : K = V14
      · have d3 : ((K : Int) != (V14 : Int)) = false := by simp [h3]
        rw [d3]
        have hT := HT.out
        rw [if_neg (fun hne => hne h3)] at hT
        have HT2 := Lib.hid hT
        clear hT HT h3 d3
        obtain ⟨sec, hsec⟩ : ∃ sec, (128 + V10 + 34 * n + 127) / 128 = sec := ⟨_, rfl⟩
        have w36 : IntKind.i64.wrap ((128 : Int) + V10 + 34 * n + 128) = (128 : Int) + V10 + 34 * n + 128 := by rw [IntKind.wrap_i64]; omega
        have w37 : IntKind.i64.wrap ((128 : Int) + V10 + 34 * n + 128 - 1) = (128 : Int) + V10 + 34 * n + 128 - 1 := by rw [IntKind.wrap_i64]; omega
        have tq : ((128 : Int) + V10 + 34 * n + 128 - 1).tdiv 128 = (sec : Nat) := by rw [Int.tdiv_eq_ediv_of_nonneg (by omega)]; omega
        have w38 : IntKind.i64.wrap (sec : Int) = (sec : Int) := by rw [IntKind.wrap_i64]; omega
        have hlc : w.heap.size < wc.heap.size := (Array.getElem?_eq_some_iff.1 HGC.out).1
        have HSEC := Lib.hid hsec
        clear hsec
        obtain ⟨X, hX⟩ : ∃ X, X = wc := ⟨_, rfl⟩
        subst hX
        go_upto_region 9 with (fail)
        go_cut [8] from 41 to 50 (fun s8 wx => s8 = .pointer (some ⟨X.heap.size, 0, none⟩) ∧ wx.heap[X.heap.size]? = some (.cells #[.int .i64 (V4 : Nat), .int .i64 (sec : Nat), .slice none 0 0] 53 (0, 0)) ∧ Below X.heap.size X wx)
        case first =>
          have hbn : Below X.heap.size X (X.alloc (.cells #[.int .i64 (V4 : Nat), .int .i64 (sec : Nat), .slice none 0 0] 53)) := (Below.refl _ _).alloc (Nat.le_refl _) _
          have hgn : (X.alloc (.cells #[.int .i64 (V4 : Nat), .int .i64 (sec : Nat), .slice none 0 0] 53)).heap[X.heap.size]? = some (.cells #[.int .i64 (V4 : Nat), .int .i64 (sec : Nat), .slice none 0 0] 53 (0, 0)) := heap_alloc_new _ _
          go_wp2_with fail
          go_meet
          exact ⟨rfl, hgn, hbn⟩
        case rest =>
          obtain ⟨rfl, hg9, hb9⟩ := hcut
          have k1d := (hb9.cell (p := ⟨w6.heap.size, 1, none⟩) (block_lt_of_cell k1c)).trans k1c
          have hz9 := (hb9.block w.heap.size hlc).trans HGC.out
          have HB9 := Lib.hid (HBC.out.trans (hb9.mono HBC.out.size))
          have HG9 := Lib.hid hg9
          have HZ9 := Lib.hid hz9
          have hl9 : X.heap.size < wc.heap.size := (Array.getElem?_eq_some_iff.1 hg9).1
          clear hg9 hb9 hz9 k1c k0c HBC HGC w36 w37 w38 tq
          go_wp2_with fail
          go_loopw [9, 53] (fun va vi W => ∃ i, i ≤ n ∧ ScanRel bs (128 + V10) V4 sec w X.heap.size i W vi va) (fun _ vi _ => n - (intOf vi).toNat)
          case atStart =>
            exact ⟨0, Nat.zero_le _, rfl, rfl, fun j h => by omega, none, 0, Nat.le_refl _, own_nilV _ _ _ _, HG9.out, HZ9.out, HB9.out, hl9⟩
          case round =>
            obtain ⟨i, hi, rfl, rfl, hok, A4, c4, hic, ho, hgr, hzr, hbr, hl8⟩ := hrel
            have z0 : wr.cell? ⟨w.heap.size, 0, none⟩ = some (.int .i64 0) := by rw [cell_of_row _ _ _ _ _ _ hzr]; rfl
            have z1 : wr.cell? ⟨w.heap.size, 1, none⟩ = some (.int .i64 0) := by rw [cell_of_row _ _ _ _ _ _ hzr]; rfl
            have z2 : wr.cell? ⟨w.heap.size, 2, none⟩ = some (.slice none 0 0) := by rw [cell_of_row _ _ _ _ _ _ hzr]; rfl
            have f0 : wr.frozen? ⟨w.heap.size, 0, none⟩ = false := frozen_of_row _ _ _ _ _ hzr
            have f1 : wr.frozen? ⟨w.heap.size, 1, none⟩ = false := frozen_of_row _ _ _ _ _ hzr
            have f2 : wr.frozen? ⟨w.heap.size, 2, none⟩ = false := frozen_of_row _ _ _ _ _ hzr
            have HOK := Lib.hid hok
            have HO := Lib.hid ho
            have HGR := Lib.hid hgr
            have HZR := Lib.hid hzr
            have HBR := Lib.hid hbr
            have hat := atB_le bs (128 + V10) i hok
            have hwl : w.heap.size < X.heap.size := hlc
            clear hok ho hgr hzr hbr
            by_cases hlt : i < n
            · have dlt : decide ((i : Int) < (n : Int)) = true := decide_eq_true (by omega)
              obtain ⟨i0, hi0, hs0⟩ := info_u8''
              obtain ⟨A3, s3, r3⟩ := RN.mid (P := Try.prog) 27 5 .u8 Try.underlying27 hi0 hs0 A2 (34 * n) (c - (128 + V10)) (34 * i) (34 * (i + 1)) (by omega) (by omega) (by omega)
              rw [show 34 * (i + 1) - 34 * i = 34 by omega] at s3 r3
              rw [show ((34 * (i + 1) : Nat) : Int) = 34 * ((i : Int) + 1) by omega, show ((34 * i : Nat) : Int) = 34 * (i : Int) by omega] at s3
              have hr3 := r3 wr _ (by rw [List.length_take, List.length_drop]; omega) (HR2.out wr bs rfl (HR.out.below HBR.out))
              rw [rowB_of bs (128 + V10) n i hlt] at hr3
              have hl3 := rowB_len bs (128 + V10) i (by omega)
              have hb3 : ∀ x ∈ rowB bs (128 + V10) i, x < 256 := fun x hx => HB.out x (List.mem_of_mem_drop (List.mem_of_mem_take hx))
              have htf := TakeFixed_c A3 (c - (128 + V10) - 34 * i) 32 2 (rowB bs (128 + V10) i) wr hr3 (by rw [hl3]; omega) hb3 (by decide) (by decide) (by rw [hl3]; omega)
              rw [hl3, rowB_long] at htf
              have hLl : longB bs (128 + V10) i < 65536 := hdV_lt bs _ 2 (by omega) HB.out
              have s32 := fun W => RN.fore (P := Try.prog) 27 5 Try.underlying27 hi0 hs0 A3 34 (c - (128 + V10) - 34 * i) 32 (by omega) W
              replace s32 : ∀ W : World, (Instr.slice 27 (.slice A3 34 (c - (128 + V10) - 34 * i)) none (some (.int .i64 32)) none).run Try.prog W = .ok (.slice A3 32 (c - (128 + V10) - 34 * i)) W := s32
              have hsl : (slotB bs (128 + V10) i) = ((slotB bs (128 + V10) i).1, atB bs (128 + V10) i, longB bs (128 + V10) i) := rfl
              have hr4 := hr3.take 32 (by omega)
              rw [rowB_sum] at hr4
              have hql : (slotB bs (128 + V10) i).1.length = 32 := by rw [← rowB_sum, List.length_take, hl3]; rfl
              have hss := slotsB_succ bs (128 + V10) i
              have hokk : okB bs (128 + V10) i ↔ 1 ≤ longB bs (128 + V10) i ∧ longB bs (128 + V10) i ≤ 512 := Iff.rfl
              have hats : atB bs (128 + V10) (i + 1) = atB bs (128 + V10) i + longB bs (128 + V10) i := rfl
              obtain ⟨q, hq⟩ : ∃ q, (slotB bs (128 + V10) i).1 = q := ⟨_, rfl⟩
              obtain ⟨Ln, hLn⟩ : ∃ Ln, longB bs (128 + V10) i = Ln := ⟨_, rfl⟩
              obtain ⟨a, ha⟩ : ∃ a, atB bs (128 + V10) i = a := ⟨_, rfl⟩
              rw [hq] at hsl hr4 hql
              rw [hLn] at htf hLl hsl hokk hats
              rw [ha] at hsl hat hats ⊢
              obtain ⟨ad, hA3, had⟩ := hr4.addr (by omega)
              subst hA3
              have HTF := Lib.hid htf
              have HAD := Lib.hid (show Reads8 wr ad q from had)
              have HSL := Lib.hid hsl
              have HSS := Lib.hid hss
              have HOKK := Lib.hid hokk
              have HATS := Lib.hid hats
              have HQL := Lib.hid hql
              clear htf had hsl hss hokk hats hr4 hr3 r3 hi0 hs0 hl3 hb3 hq hLn ha hql
              have w34i : IntKind.i64.wrap ((34 : Int) * i) = (34 : Int) * i := by rw [IntKind.wrap_i64]; omega
              have wi1 : IntKind.i64.wrap ((i : Int) + 1) = (i : Int) + 1 := by rw [IntKind.wrap_i64]; omega
              have w34j : IntKind.i64.wrap ((34 : Int) * ((i : Int) + 1)) = (34 : Int) * ((i : Int) + 1) := by rw [IntKind.wrap_i64]; omega
              have wat : IntKind.i64.wrap ((a : Int) + Ln) = (a : Int) + Ln := by rw [IntKind.wrap_i64]; omega
              go_wp2_with fail
              refine HTF.out.mono ?_
              rintro e w12 ⟨rfl, hw12⟩
              subst hw12
              by_cases o1 : Ln < 1
              · have d1 : decide ((Ln : Int) < 1) = true := decide_eq_true (by omega)
                have hno : ¬ ∀ i < n, okB bs (128 + V10) i := fun h => by have := HOKK.out.1 (h i hlt); omega
                go_wp2_with fail
                rw [HPR.out, HT2.out, if_pos hno]
                refine parse_fail _ w12 w w.heap.size 2 _ _ _ (by rfl) (by rfl) HZR.out HBR.out (Nat.le_refl _)
              have d1 : decide ((Ln : Int) < 1) = false := decide_eq_false (by omega)
              by_cases o2 : 512 < Ln
              · have d2 : decide ((512 : Int) < (Ln : Int)) = true := decide_eq_true (by omega)
                have hno : ¬ ∀ i < n, okB bs (128 + V10) i := fun h => by have := HOKK.out.1 (h i hlt); omega
                go_wp2_with fail
                rw [HPR.out, HT2.out, if_pos hno]
                refine parse_fail _ w12 w w.heap.size 2 _ _ _ (by rfl) (by rfl) HZR.out HBR.out (Nat.le_refl _)
              have d2 : decide ((512 : Int) < (Ln : Int)) = false := decide_eq_false (by omega)
              go_upto_region 18 with (fail)
              have hbt := built_slot q (a : Int) (Ln : Int) HQL.out
              obtain ⟨D, hD⟩ : ∃ D, (q.map (encN .u8) ++ [Value.int .i64 (a : Int), Value.int .i64 (Ln : Int)]).toArray = D := ⟨_, rfl⟩
              obtain ⟨E, hE⟩ : ∃ E, (q.map (encN .u8)).toArray = E := ⟨_, rfl⟩
              rw [hD, hE] at hbt
              have hDs : D.size = 34 := by rw [← hD]; simp [HQL.out]
              have hD1 : D.all (·.oneCell') = true := by rw [← hD]; simp [encN, Value.oneCell']
              have hDl : D.toList = flatS [slotB bs (128 + V10) i] := by rw [← hD, HSL.out]; simp [flatS, slCells]
              have hin : (Try.prog.info? 36).map (·.size) = some (q.map (encN .u8)).length := by rw [List.length_map, HQL.out]; kernel_rfl
              have hatp : ∀ W, (Instr.arrayAt 36 (.slice (some ad) 32 (c - (128 + V10) - 34 * i))).run Try.prog W = .ok (.pointer (some ad)) W := fun W => run_arrayAt W 36 _ 32 _ _ _ Try.underlying36 (by omega)
              have u2 : w12.cell? ⟨X.heap.size, 2, none⟩ = some (.slice A4 i c4) := by rw [cell_of_row _ _ _ _ _ _ HGR.out]; rfl
              have HDs := Lib.hid hDs
              have HD1 := Lib.hid hD1
              have HDl := Lib.hid hDl
              have HIN := Lib.hid hin
              have HE := Lib.hid hE
              clear hD hE hDs hD1 hDl hin z0 z1 z2 f0 f1 f2 d1 d2 dlt
              go_cut [] from 76 to 87 (fun wx => ScanMid bs (128 + V10) V4 sec w X.heap.size (i + 1) wx)
              case first =>
                have htt : (fun w' : World => w'.cell? ⟨X.heap.size, 2, none⟩ = some (.slice A4 i c4) ∧ Reads8 w' ad q) w12.drew := ⟨u2, HAD.out⟩
                refine wp_region_late [1, 5] (fun w' => w'.cell? ⟨X.heap.size, 2, none⟩ = some (.slice A4 i c4) ∧ Reads8 w' ad q) (by kernel_rfl) htt (fun hT => ?_)
                refine WL.take (i := 0) (v := ?_) rfl (by kernel_rfl) (by kernel_rfl) (by kernel_rfl) (by kernel_rfl) (fun _ _ _ h => h) (Or.inl ⟨by rfl, ?_⟩) (by assumption) ?_
                rotate_left 1
                · (intro w' hSw; (try (replace hSw := hSw (by decide); dsimp only at hSw)); go_split_ands; go_simp; try with_reducible rfl)
                simp only [Act.put, List.getElem_toArray, List.getElem_cons_zero, List.getElem_cons_succ, List.setIfInBounds_toArray, List.set_cons_zero, List.set_cons_succ]
                refine WL.take (i := 1) (v := ?_) rfl (by kernel_rfl) (by kernel_rfl) (by kernel_rfl) (by kernel_rfl) (fun _ _ _ h => h) (Or.inl ⟨by rfl, ?_⟩) (by assumption) ?_
                rotate_left 1
                · (intro w' hSw; (try (replace hSw := hSw (by decide); dsimp only at hSw)); go_split_ands; go_simp; try with_reducible rfl)
                simp only [Act.put, List.getElem_toArray, List.getElem_cons_zero, List.getElem_cons_succ, List.setIfInBounds_toArray, List.set_cons_zero, List.set_cons_succ]
                refine WL.take (i := 2) (v := ?_) rfl (by kernel_rfl) (by kernel_rfl) (by kernel_rfl) (by kernel_rfl) (fun _ _ _ h => h) (Or.inl ⟨by rfl, ?_⟩) (by assumption) ?_
                rotate_left 1
                · (intro w' hSw; (try (replace hSw := hSw (by decide); dsimp only at hSw)); go_split_ands; go_simp; try with_reducible rfl)
                simp only [Act.put, List.getElem_toArray, List.getElem_cons_zero, List.getElem_cons_succ, List.setIfInBounds_toArray, List.set_cons_zero, List.set_cons_succ]
                refine WL.take (i := 3) (v := ?_) rfl (by kernel_rfl) (by kernel_rfl) (by kernel_rfl) (by kernel_rfl) (fun _ _ _ h => h) (Or.inl ⟨by rfl, ?_⟩) (by assumption) ?_
                rotate_left 1
                · (intro w' hSw; (try (replace hSw := hSw (by decide); dsimp only at hSw)); go_split_ands; go_simp; try with_reducible rfl)
                simp only [Act.put, List.getElem_toArray, List.getElem_cons_zero, List.getElem_cons_succ, List.setIfInBounds_toArray, List.set_cons_zero, List.set_cons_succ]
                refine WL.take (i := 4) (v := ?_) rfl (by kernel_rfl) (by kernel_rfl) (by kernel_rfl) (by kernel_rfl) (fun _ _ _ h => h) (Or.inl ⟨by rfl, ?_⟩) (by assumption) ?_
                rotate_left 1
                · (intro w' hSw; (try (replace hSw := hSw (by decide); dsimp only at hSw)); go_split_ands; go_simp; try with_reducible rfl)
                simp only [Act.put, List.getElem_toArray, List.getElem_cons_zero, List.getElem_cons_succ, List.setIfInBounds_toArray, List.set_cons_zero, List.set_cons_succ]
                refine WL.take (i := 5) (v := .agg E) rfl (by kernel_rfl) (by kernel_rfl) (by kernel_rfl) (by kernel_rfl) (fun _ _ _ h => h) (HE.out ▸ yieldsIf_load_at (by rfl) 36 (.tmp 80) (by rfl) ad (by rfl) (q.map (encN .u8)) _ (fun w' h => (h (by decide)).2) Try.underlying36 (by rfl) HIN.out) hT ?_
                simp only [Act.put, List.getElem_toArray, List.getElem_cons_zero, List.getElem_cons_succ, List.setIfInBounds_toArray, List.set_cons_zero, List.set_cons_succ]
                refine WL.take (i := 6) (v := ?_) rfl (by kernel_rfl) (by kernel_rfl) (by kernel_rfl) (by kernel_rfl) (fun _ _ _ h => h) (Or.inl ⟨by rfl, ?_⟩) (by assumption) ?_
                rotate_left 1
                · (intro w' hSw; (try (replace hSw := hSw (by decide); dsimp only at hSw)); go_split_ands; go_simp; try with_reducible rfl)
                simp only [Act.put, List.getElem_toArray, List.getElem_cons_zero, List.getElem_cons_succ, List.setIfInBounds_toArray, List.set_cons_zero, List.set_cons_succ]
                refine WL.take (i := 7) (v := ?_) rfl (by kernel_rfl) (by kernel_rfl) (by kernel_rfl) (by kernel_rfl) (fun _ _ _ h => h) (Or.inl ⟨by rfl, ?_⟩) (by assumption) ?_
                rotate_left 1
                · (intro w' hSw; (try (replace hSw := hSw (by decide); dsimp only at hSw)); go_split_ands; go_simp; try with_reducible rfl)
                simp only [Act.put, List.getElem_toArray, List.getElem_cons_zero, List.getElem_cons_succ, List.setIfInBounds_toArray, List.set_cons_zero, List.set_cons_succ]
                refine WL.take (i := 8) (v := .agg D) rfl (by kernel_rfl) (by kernel_rfl) (by kernel_rfl) (by kernel_rfl) (fun _ _ _ h => h) (yields_build3 (by rfl) 38 (.tmp 81) (.tmp 82) (.tmp 83) (by rfl) _ _ _ (by rfl) (by rfl) (by rfl) D hbt) hT ?_
                simp only [Act.put, List.getElem_toArray, List.getElem_cons_zero, List.getElem_cons_succ, List.setIfInBounds_toArray, List.set_cons_zero, List.set_cons_succ]
                refine WL.one (i := 9) (by kernel_rfl) rfl (fun K hK => ?_)
                rw [if_pos (by rfl)]
                refine wp_buildSlice1 51 38 (.tmp 84) (by rfl) D 34 Try.underlying51 infoS2 HDs.out (by decide) (by decide) (by rfl) ?_
                go_simp
                have hb5 : Below w12.heap.size w12 (w12.alloc (.cells D 38)).drew := ((Below.refl _ _).alloc (Nat.le_refl _) _).drew
                have hgx5 : (w12.alloc (.cells D 38)).drew.heap[w12.heap.size]? = some (.cells D 38 (0, 0)) := heap_alloc_new _ _
                refine hK.out _ _ (fun _ => ⟨(hb5.cell (p := ⟨X.heap.size, 2, none⟩) hl8).trans u2, fun j v hv => (hb5.cell (block_lt_of_cell (HAD.out j v hv))).trans (HAD.out j v hv)⟩) ?_
                clear hK K
                have ho5 := pw_own_below HO.out hb5
                have hs5 := hb5.size
                have hbB : Below (X.heap.size + 1) w12 (w12.alloc (.cells D 38)).drew := hb5.mono hl8
                generalize (w12.alloc (.cells D 38)).drew = w5 at hgx5 hbB ho5 hs5 ⊢
                refine WL.late (i := 10) (by kernel_rfl) rfl (by kernel_rfl) (fun K hK => ?_)
                refine step_append_slot (X.heap.size + 1) rfl (.tmp 77) (.tmp 85) (by rfl) (.slice A4 i c4) i _ D w12.heap.size 1 38 (0, 0) (by rfl) (by rfl) ho5 hgx5 HDs.out HD1.out (by omega) (by omega) ?_
                intro v7 w7 ho7 hg7
                have hb7 : Below (X.heap.size + 1) w12 w7 := hbB.grown hg7 (by omega) (fun j ej => own_base ho5 j ej)
                obtain ⟨A7, c7, e7, hc7, hr7, _⟩ := RV.ofOwn ho7
                subst e7
                have h7 := (hb7.block X.heap.size (by omega)).trans HGR.out
                have hz7 := (hb7.block w.heap.size (by omega)).trans HZR.out
                have K2 : w7.cell? ⟨X.heap.size, 2, none⟩ = some (.slice A4 i c4) := by rw [cell_of_row _ _ _ _ _ _ h7]; rfl
                have K3 : w7.frozen? ⟨X.heap.size, 2, none⟩ = false := frozen_of_row _ _ _ _ _ h7
                have hl7 : X.heap.size < w7.heap.size := (Array.getElem?_eq_some_iff.1 h7).1
                have hbw : Below w.heap.size w w7 := HBR.out.trans (hb7.mono (by omega))
                have H7 := Lib.hid h7
                have HZ7 := Lib.hid hz7
                have HO7 := Lib.hid ho7
                have HBW := Lib.hid hbw
                clear ho5 hg7 hgx5 ho7 hr7 hb7 h7 hz7 hbB hbw hb5
                go_simp
                refine hK.out _ _ ?_
                clear hK K
                refine WL.late (i := 11) (by kernel_rfl) rfl (by kernel_rfl) (fun K hK => ?_)
                go_simp
                refine hK.out _ _ ?_
                clear hK K
                refine WL.late (i := 12) (by kernel_rfl) rfl (by kernel_rfl) (fun K hK => ?_)
                go_simp
                refine hK.out _ _ ?_
                clear hK K
                refine WL.done (by kernel_rfl) ?_ _
                go_wp2_with fail
                go_meet
                have ho8 := HO7.out
                rw [HDl.out, ← flatS_append, ← HSS.out] at ho8
                exact ⟨A7, c7, hc7, own_move ho8 (fun k hk => heap_setCell_other _ _ _ _ (fun e => by have := own_base ho8 k hk; have e : k = X.heap.size := e; omega)), heap_setCell_same w7 X.heap.size 2 _ _ _ H7.out,
                  (heap_setCell_other _ _ _ _ (fun e => by have e : w.heap.size = X.heap.size := e; omega)).trans HZ7.out, HBW.out.setCell (by show w.heap.size ≤ X.heap.size; omega) _, by simpa using hl7⟩
              case rest =>
                have HCUT := Lib.hid hcut
                clear hcut
                go_wp2_with fail
                exact ⟨⟨i + 1, by omega, by first | rfl | go_num, by rw [HATS.out]; first | rfl | go_num | simp, fun j hj => by
                  by_cases e : j = i
                  · subst e; exact HOKK.out.2 ⟨by omega, by omega⟩
                  · exact HOK.out j (by omega), HCUT.out⟩, by simp [intOf]; omega⟩
            · have dlt : decide ((i : Int) < (n : Int)) = false := decide_eq_false (by omega)
              obtain rfl : i = n := by omega
              have hT := HT2.out
              rw [if_neg (fun h => h HOK.out)] at hT
              obtain ⟨a, ha⟩ : ∃ a, atB bs (128 + V10) i = a := ⟨_, rfl⟩
              rw [ha] at hT hat ⊢
              have g0 : wr.cell? ⟨X.heap.size, 0, none⟩ = some (.int .i64 (V4 : Nat)) := by rw [cell_of_row _ _ _ _ _ _ HGR.out]; rfl
              have g1 : wr.cell? ⟨X.heap.size, 1, none⟩ = some (.int .i64 (sec : Nat)) := by rw [cell_of_row _ _ _ _ _ _ HGR.out]; rfl
              have g2 : wr.cell? ⟨X.heap.size, 2, none⟩ = some (.slice A4 i c4) := by rw [cell_of_row _ _ _ _ _ _ HGR.out]; rfl
              by_cases ho : a ≠ 128 + V10
              · have e1 : ((a : Int) != (128 : Int) + (V10 : Int)) = true := by simp; omega
                rw [if_pos ho] at hT
                have HT3 := Lib.hid hT
                clear hT ho ha
                go_wp2_with fail
                rw [HPR.out, HT3.out]
                refine parse_fail _ wr w w.heap.size 4 _ _ _ (by rfl) (by rfl) HZR.out HBR.out (Nat.le_refl _)
              · have e1 : ((a : Int) != (128 : Int) + (V10 : Int)) = false := by simp; omega
                rw [if_neg ho] at hT
                have HT3 := Lib.hid hT
                clear hT ho ha
                go_wp2_with fail
                have hlen := slotsB_len bs (128 + V10) i
                obtain ⟨A9, c9, e9, hc9, hr9, _⟩ := RV.ofOwn HO.out
                injection e9 with e9 _ _
                subst e9
                have hzw : w.heap.size ≤ w.heap.size := Nat.le_refl _
                rw [HPR.out, HT3.out, HSEC.out]
                refine parse_ret _ _ w w.heap.size (0, V4, sec, slotsB bs (128 + V10) i) A4 c4 (by rfl) (by rfl) ?_ ?_ (((HBR.out.setCell hzw _).setCell hzw _).setCell hzw _)
                · show _ = some (Obj.cells #[.int .i64 (V4 : Nat), .int .i64 (sec : Nat), .slice A4 (slotsB bs (128 + V10) i).length c4] 53 (0, 0))
                  rw [hlen]
                  exact bin_set3 wr w.heap.size _ _ _ _ _ _ HZR.out
                · show RV 38 _ A4 (slotsB bs (128 + V10) i).length (flatS (slotsB bs (128 + V10) i))
                  rw [hlen]
                  have t1 := heap_setCell_same wr w.heap.size 0 _ _ (.int .i64 (V4 : Nat)) HZR.out
                  have t2 := heap_setCell_same _ w.heap.size 1 _ _ (.int .i64 (sec : Nat)) t1
                  exact RV.setOther (RV.setOther (RV.setOther hr9 HZR.out (by decide)) t1 (by decide)) t2 (by decide)
      · have d3 : ((K : Int) != (V14 : Int)) = true := by simp; omega
        rw [d3]
        have hT := HT.out
        rw [if_pos h3] at hT
        have HT2 := Lib.hid hT
        have z0 : wc.cell? ⟨w.heap.size, 0, none⟩ = some (.int .i64 0) := by rw [cell_of_row _ _ _ _ _ _ HGC.out]; rfl
        have z1 : wc.cell? ⟨w.heap.size, 1, none⟩ = some (.int .i64 0) := by rw [cell_of_row _ _ _ _ _ _ HGC.out]; rfl
        have z2 : wc.cell? ⟨w.heap.size, 2, none⟩ = some (.slice none 0 0) := by rw [cell_of_row _ _ _ _ _ _ HGC.out]; rfl
        have f0 : wc.frozen? ⟨w.heap.size, 0, none⟩ = false := frozen_of_row _ _ _ _ _ HGC.out
        have f1 : wc.frozen? ⟨w.heap.size, 1, none⟩ = false := frozen_of_row _ _ _ _ _ HGC.out
        have f2 : wc.frozen? ⟨w.heap.size, 2, none⟩ = false := frozen_of_row _ _ _ _ _ HGC.out
        clear hT HT h3 d3
        go_wp2_with fail
        rw [HPR.out, HT2.out]
        refine parse_fail _ wc w w.heap.size 5 _ _ _ (by rfl) (by rfl) HGC.out HBC.out (Nat.le_refl _)
  · have e0 : (h != 0) = true := by simp [h0]
    have k0 : w2.cell? ⟨w.heap.size, 0, none⟩ = some (.int .i64 0) := by rw [cell_of_row _ _ _ _ _ _ HG2.out]; rfl
    have k1 : w2.cell? ⟨w.heap.size, 1, none⟩ = some (.int .i64 0) := by rw [cell_of_row _ _ _ _ _ _ HG2.out]; rfl
    have k2 : w2.cell? ⟨w.heap.size, 2, none⟩ = some (.slice none 0 0) := by rw [cell_of_row _ _ _ _ _ _ HG2.out]; rfl
    have f0 : w2.frozen? ⟨w.heap.size, 0, none⟩ = false := frozen_of_row _ _ _ _ _ HG2.out
    have f1 : w2.frozen? ⟨w.heap.size, 1, none⟩ = false := frozen_of_row _ _ _ _ _ HG2.out
    have f2 : w2.frozen? ⟨w.heap.size, 2, none⟩ = false := frozen_of_row _ _ _ _ _ HG2.out
    go_wp2_with fail
    have hP : parseP bs = (h, 0, 0, []) := by unfold parseP; rw [if_pos (by rw [HH.out]; exact h0), HH.out]
    rw [hP]
    refine parse_fail _ w2 w w.heap.size h _ _ _ (by rfl) (by rfl) HG2.out HB2.out (Nat.le_refl _)
end Go.Proofs.Ytejmklfhcealnaa.F

/- The document's numbers of a head. -/
set_option linter.unusedVariables false
set_option linter.unusedSimpArgs false
namespace Go.Proofs.Ytejmklfhcealnaa.F
open Go.RowKit Go.Proofs.YtejmklfhcealnaaW.PrintWords

theorem num_r (A : Option Addr) (c at' k : Nat) (p : List Nat) (w : World) (hr : RN .u8 w A p) (hp : ∀ x ∈ p, x < 256) (hk1 : 1 ≤ k) (hk4 : k ≤ 4) (hfit : at' + k ≤ p.length) :
    Calls Try.prog 46 #[.slice A p.length c, .int .i64 (at' : Nat), .int .i64 (k : Nat)] w fun e w' => e = .returned (.int .i64 (hdV p at' k : Nat)) ∧ w' = w := by
  have ht := TakeFixed_r A c at' k p w hr hp hk1 hk4 hfit
  obtain ⟨V, hV⟩ : ∃ V, bigV ((p.drop at').take k) = V := ⟨_, rfl⟩
  have hv : hdV p at' k = V := hV
  rw [hV] at ht
  rw [hv]
  have HT := Lib.hid ht
  clear ht hv hV hr
  go_enter Try.func46, Try.ntmps46
  go_wp2_with fail
  refine HT.out.mono ?_
  rintro e w1 ⟨rfl, rfl⟩
  go_wp2_with fail
  go_ret
  exact ⟨rfl, rfl⟩
end Go.Proofs.Ytejmklfhcealnaa.F

/- The document's Parse. -/
set_option linter.unusedVariables false
set_option linter.unusedSimpArgs false
namespace Go.Proofs.Ytejmklfhcealnaa.F
open Go.RowKit Go.Proofs.YtejmklfhcealnaaW.PrintWords

theorem parse_ret_r (tmps : Array Value) (W w : World) (g : Nat) (r : Int × Nat × Nat × List Sl) (A : Option Addr) (c : Nat) (hp : tmps.getD 2 undef = .pointer (some ⟨g, 0, none⟩)) (he : tmps.getD 3 undef = .int .i64 r.1)
    (hg : W.heap[g]? = some (.cells #[.int .i64 (r.2.1 : Nat), .int .i64 (r.2.2.1 : Nat), .slice A r.2.2.2.length c] 53 (0, 0))) (hr : RV 38 W A r.2.2.2.length (flatS r.2.2.2)) (hb : Below w.heap.size w W) :
    bodyPost Try.prog Try.f25 (ParseAns r w) .ret { tmps := tmps, defers := [] } W := by
  have h := results_ct (P := Try.prog) (fn := Try.f25) rfl tmps W g 53 _ (0, 0) _ hp hg Try.underlying53 rfl info_bin
  rw [he] at h
  exact bodyPost_ret h rfl ⟨_, rfl, ⟨A, c, rfl, hr⟩, hb⟩
theorem parse_fail_r (tmps : Array Value) (W w : World) (g : Nat) (E : Int) (x y z : Value) (hp : tmps.getD 2 undef = .pointer (some ⟨g, 0, none⟩)) (he : tmps.getD 3 undef = .int .i64 E)
    (hg : W.heap[g]? = some (.cells #[x, y, z] 53 (0, 0))) (hb : Below w.heap.size w W) (hle : w.heap.size ≤ g) :
    bodyPost Try.prog Try.f25 (ParseAns (E, 0, 0, []) w) .ret { tmps := tmps, defers := [] } (((W.setCell ⟨g, 0, none⟩ (.int .i64 0)).setCell ⟨g, 1, none⟩ (.int .i64 0)).setCell ⟨g, 2, none⟩ (.slice none 0 0)) :=
  parse_ret_r tmps _ w g (E, 0, 0, []) none 0 hp he (bin_set3 W g _ _ _ _ _ _ hg) (RV.nil _ _ _ _) (((hb.setCell hle _).setCell hle _).setCell hle _)
theorem parseP_fail {bs : List Nat} {E : Int} (h : headN bs = E) (hE : E ≠ 0) : parseP bs = (E, 0, 0, []) := by
  unfold parseP
  rw [if_pos (by rw [h]; exact hE), h]
theorem zeros_none {bs : List Nat} (hl : 128 ≤ bs.length) (h : ∀ j (hj : j < bs.length), 22 ≤ j → j < 128 → bs[j] = 0) : ((bs.drop 22).take 106).any (fun x => decide (x ≠ 0)) = false := by
  rw [List.any_eq_false]
  intro x hx
  obtain ⟨j, hj, rfl⟩ := List.getElem_of_mem hx
  rw [List.length_take, List.length_drop] at hj
  simp only [List.getElem_take, List.getElem_drop, decide_eq_true_eq]
  exact fun hn => hn (h _ (by omega) (by omega) (by omega))
theorem zeros_some {bs : List Nat} (i : Nat) (hi : i < bs.length) (h1 : 22 ≤ i) (h2 : i < 128) (h : bs[i] ≠ 0) : ((bs.drop 22).take 106).any (fun x => decide (x ≠ 0)) = true := by
  rw [List.any_eq_true]
  have hj : i - 22 < ((bs.drop 22).take 106).length := by rw [List.length_take, List.length_drop]; omega
  refine ⟨((bs.drop 22).take 106)[i - 22], List.getElem_mem hj, ?_⟩
  simp only [List.getElem_take, List.getElem_drop, decide_eq_true_eq, show 22 + (i - 22) = i by omega]
  exact h

/-- A slot whose sum is laid byte by byte: j bytes of it stand. -/
def fillQ (q : List Nat) (j : Nat) (a n : Int) : Array Value := ((List.range 32).map (fun x => encN .u8 (if x < j then q.getD x 0 else 0)) ++ [Value.int .i64 a, Value.int .i64 n]).toArray
theorem fillQ_size (q : List Nat) (j : Nat) (a n : Int) : (fillQ q j a n).size = 34 := by simp [fillQ]
theorem fillQ_one (q : List Nat) (j : Nat) (a n : Int) : (fillQ q j a n).all (·.oneCell') = true := by simp [fillQ, encN, Value.oneCell']
theorem fillQ_32 (q : List Nat) (j : Nat) (a n : Int) : (fillQ q j a n)[32]? = some (.int .i64 a) := by simp [fillQ]
theorem fillQ_33 (q : List Nat) (j : Nat) (a n : Int) : (fillQ q j a n)[33]? = some (.int .i64 n) := by simp [fillQ]
theorem fillQ_lo (q : List Nat) (j : Nat) (a n : Int) (k : Nat) (h : k < 32) : (fillQ q j a n)[k]? = some (encN .u8 (if k < j then q.getD k 0 else 0)) := by
  unfold fillQ
  rw [List.getElem?_toArray, List.getElem?_append_left (by simpa using h), List.getElem?_map, List.getElem?_range h]
  rfl
theorem fillQ_hi (q : List Nat) (j : Nat) (a n : Int) (k : Nat) (h : ¬ k < 32) : (fillQ q j a n)[k]? = [Value.int .i64 a, Value.int .i64 n][k - 32]? := by
  unfold fillQ
  rw [List.getElem?_toArray, List.getElem?_append_right (by simp; omega)]
  simp
theorem fillQ_at (q : List Nat) (j : Nat) (a n : Int) (h : j < 32) : (fillQ q j a n)[j]? = some (.int .u8 0) := by
  rw [fillQ_lo q j a n j h, if_neg (Nat.lt_irrefl j)]
  rfl
theorem fillQ_set (q : List Nat) (j : Nat) (a n : Int) (h : j < 32) (x : Nat) (hx : q[j]? = some x) : (fillQ q j a n).setIfInBounds j (.int .u8 (x : Nat)) = fillQ q (j + 1) a n := by
  apply Array.ext_getElem?
  intro k
  rw [Array.getElem?_setIfInBounds, fillQ_size]
  by_cases e : j = k
  · subst e
    rw [if_pos rfl, if_pos (by omega), fillQ_lo _ _ _ _ _ h, if_pos (by omega)]
    simp [encN, List.getD, hx]
  · rw [if_neg e]
    by_cases hk : k < 32
    · rw [fillQ_lo _ _ _ _ _ hk, fillQ_lo _ _ _ _ _ hk]
      by_cases h1 : k < j
      · rw [if_pos h1, if_pos (by omega)]
      · rw [if_neg h1, if_neg (by omega)]
    · rw [fillQ_hi _ _ _ _ _ hk, fillQ_hi _ _ _ _ _ hk]
theorem fillQ_full (q : List Nat) (a n : Int) (h : q.length = 32) : fillQ q 32 a n = (q.map (encN .u8) ++ [Value.int .i64 a, Value.int .i64 n]).toArray := by
  unfold fillQ
  congr 2
  apply List.ext_getElem
  · simp [h]
  · intro k h1 h2
    have hk : k < 32 := by simpa using h1
    simp [hk, List.getD, List.getElem?_eq_getElem (show k < q.length by omega)]
theorem store_new (t : TypeId) (W : World) (Z C : Array Value) (hsz : Z.size = C.size) (hone : C.all (·.oneCell') = true) :
    Sem.run Try.prog (storeCells ⟨W.heap.size, 0, none⟩ C.toList) (W.alloc (Obj.cells Z t)) = .ok () ((W.alloc (Obj.cells Z t)).setRow W.heap.size C) := by
  have := run_storeCells_at (P := Try.prog) W.heap.size 0 t C.toList 0 _ _ (heap_alloc_new W (.cells Z t)) (by simp [hsz]) (fun v hv => Array.all_eq_true_iff_forall_mem.1 hone v (Array.mem_toList_iff.1 hv))
  rw [this, List.drop_eq_nil_of_le (by simp [hsz])]
  simp
set_option maxRecDepth 100000 in
theorem built_slot0 (a n : Int) : Try.prog.built 38 [(1, .int .i64 a), (2, .int .i64 n)] = some (fillQ [] 0 a n) := by
  first | kernel_rfl | rfl
set_option maxRecDepth 100000 in
theorem zeroS_set0 (a n : Int) : (fillQ [] 0 a n).toList = (zeroS.toList.set 32 (Value.int .i64 a)).set 33 (Value.int .i64 n) := by
  first | rfl | kernel_rfl
theorem zeroS_set (q : List Nat) (a n : Int) : (fillQ q 0 a n).toList = (zeroS.toList.set 32 (Value.int .i64 a)).set 33 (Value.int .i64 n) := by
  rw [← zeroS_set0]
  simp [fillQ]
theorem built_slot2 (q : List Nat) (a n : Int) : Try.prog.built 38 [(1, .int .i64 a), (2, .int .i64 n)] = some (fillQ q 0 a n) := by
  rw [built_slot0]
  simp [fillQ]

/-- A slot more stands in the bin. -/
theorem scanMid_put {bs : List Nat} {f V4 sec i c7 c4 : Nat} {A7 A4 : Option Addr} {w w7 : World} {g : Nat} (hc7 : i + 1 ≤ c7) (ho7 : w7.ownsRow (g + 1) 38 34 (.slice A7 (i + 1) c7) (i + 1) (flatS (slotsB bs f (i + 1))))
    (h7 : w7.heap[g]? = some (.cells #[.int .i64 (V4 : Nat), .int .i64 (sec : Nat), .slice A4 i c4] 53 (0, 0)))
    (hz7 : w7.heap[w.heap.size]? = some (.cells #[.int .i64 0, .int .i64 0, .slice none 0 0] 53 (0, 0))) (hb : Below w.heap.size w w7) (hlw : w.heap.size < g) :
    ScanMid bs f V4 sec w g (i + 1) (w7.setCell ⟨g, 2, none⟩ (.slice A7 (i + 1) c7)) := by
  have hl7 : g < w7.heap.size := (Array.getElem?_eq_some_iff.1 h7).1
  exact ⟨A7, c7, hc7, own_move ho7 (fun k hk => heap_setCell_other _ _ _ _ (fun e => by have := own_base ho7 k hk; have e : k = g := e; omega)), heap_setCell_same w7 g 2 _ _ _ h7,
    (heap_setCell_other _ _ _ _ (fun e => by have e : w.heap.size = g := e; omega)).trans hz7, hb.setCell (by show w.heap.size ≤ g; omega) _, by simpa using hl7⟩
theorem keep_setCell {w7 : World} {g u : Nat} {v x : Value} {o : Obj} (h : w7.heap[u]? = some o) (hu : g < u) : (w7.setCell ⟨g, 2, none⟩ v).heap[u]? = some o :=
  (heap_setCell_other _ _ _ _ (fun e => by have e : u = g := e; omega)).trans h

set_option maxRecDepth 20000 in
set_option maxHeartbeats 8000000 in
theorem Parse_r (A : Option Addr) (c : Nat) (bs : List Nat) (w : World) (hr : RN .u8 w A bs) (hcap : bs.length ≤ c) (hb : ∀ x ∈ bs, x < 256) :
    Calls Try.prog 25 #[.slice A bs.length c] w (ParseAns (parseP bs) w) := by
  have hm := hr.max
  have hbx : Below w.heap.size w (w.alloc (.cells #[.int .i64 0, .int .i64 0, .slice none 0 0] 53)) := (Below.refl _ _).alloc (Nat.le_refl _) _
  have hgx : (w.alloc (.cells #[.int .i64 0, .int .i64 0, .slice none 0 0] 53)).heap[w.heap.size]? = some (.cells #[.int .i64 0, .int .i64 0, .slice none 0 0] 53 (0, 0)) := heap_alloc_new _ _
  obtain ⟨W1, hW1⟩ : ∃ W1, w.alloc (.cells #[.int .i64 0, .int .i64 0, .slice none 0 0] 53) = W1 := ⟨_, rfl⟩
  have HW1 := Lib.hid hW1
  rw [hW1] at hbx hgx
  have hs1 := hbx.size
  have hl1 : w.heap.size < W1.heap.size := (Array.getElem?_eq_some_iff.1 hgx).1
  have z0 : W1.cell? ⟨w.heap.size, 0, none⟩ = some (.int .i64 0) := by rw [cell_of_row _ _ _ _ _ _ hgx]; rfl
  have z1 : W1.cell? ⟨w.heap.size, 1, none⟩ = some (.int .i64 0) := by rw [cell_of_row _ _ _ _ _ _ hgx]; rfl
  have z2 : W1.cell? ⟨w.heap.size, 2, none⟩ = some (.slice none 0 0) := by rw [cell_of_row _ _ _ _ _ _ hgx]; rfl
  have f0 : W1.frozen? ⟨w.heap.size, 0, none⟩ = false := frozen_of_row _ _ _ _ _ hgx
  have f1 : W1.frozen? ⟨w.heap.size, 1, none⟩ = false := frozen_of_row _ _ _ _ _ hgx
  have f2 : W1.frozen? ⟨w.heap.size, 2, none⟩ = false := frozen_of_row _ _ _ _ _ hgx
  have HR := Lib.hid hr
  have HBX := Lib.hid hbx
  have HGX := Lib.hid hgx
  have HB := Lib.hid hb
  have HR1 := Lib.hid (hr.below hbx)
  clear hr hbx hgx hW1 hb
  by_cases h1 : bs.length < 128
  · have d1 : decide ((bs.length : Int) < 128) = true := decide_eq_true (by omega)
    have hN : headN bs = 3 := by unfold headN; rw [if_pos h1]
    rw [parseP_fail hN (by decide)]
    clear hN
    go_enter Try.func25, Try.ntmps25
    go_wp2_with (rw [HW1.out])
    refine parse_fail_r _ W1 w w.heap.size 3 _ _ _ (by rfl) (by rfl) HGX.out HBX.out (Nat.le_refl _)
  have d1 : decide ((bs.length : Int) < 128) = false := decide_eq_false (by omega)
  obtain ⟨i0, hi0, hs0⟩ := info_u8''
  have s4 := fun W => RN.fore (P := Try.prog) 27 5 Try.underlying27 hi0 hs0 A bs.length c 4 (by omega) W
  have s18 := fun W => RN.fore (P := Try.prog) 27 5 Try.underlying27 hi0 hs0 A bs.length c 18 (by omega) W
  replace s4 : ∀ W : World, (Instr.slice 27 (.slice A bs.length c) none (some (.int .i64 4)) none).run Try.prog W = .ok (.slice A 4 c) W := s4
  replace s18 : ∀ W : World, (Instr.slice 27 (.slice A bs.length c) none (some (.int .i64 18)) none).run Try.prog W = .ok (.slice A 18 c) W := s18
  have hcs := RN.string (P := Try.prog) (src := 27) (dst := 9) (e := 5) (c := c) Try.underlying27 Try.underlying5 Try.underlying9 (HR1.out.take 4 (by omega))
  rw [strN_eq, show (bs.take 4).length = 4 by rw [List.length_take]; omega] at hcs
  replace hcs : (convert 27 9 (.slice A 4 c)).run Try.prog W1 = .ok (.string (bstr (bs.take 4))) W1 := hcs
  have hnq := eq_bin (bs.take 4) (fun x hx => HB.out x (List.mem_of_mem_take hx))
  have hN : headN bs = if bs.take 4 ≠ binN then 4 else if hdV bs 18 4 ≠ crcMore 0 (bs.take 18) then 5 else if ((bs.drop 22).take 106).any (fun x => decide (x ≠ 0)) then 4 else if 4096 ≤ hdV bs 4 4 ∨ 64 < hdV bs 8 2 then 6 else if bs.length < 128 + hdV bs 10 4 + 34 * hdV bs 8 2 then 3 else 0 := by unfold headN; rw [if_neg h1]
  by_cases h2 : bs.take 4 ≠ binN
  · rw [if_pos h2] at hN
    rw [decide_eq_false h2] at hnq
    rw [parseP_fail hN (by decide)]
    obtain ⟨S, hS⟩ : ∃ S, bstr (bs.take 4) = S := ⟨_, rfl⟩
    rw [hS] at hcs hnq
    clear hN hi0 hs0 hS s18
    go_enter Try.func25, Try.ntmps25
    go_wp2_with (rw [HW1.out])
    refine parse_fail_r _ W1 w w.heap.size 4 _ _ _ (by rfl) (by rfl) HGX.out HBX.out (Nat.le_refl _)
  rw [if_neg h2] at hN
  rw [decide_eq_true (Decidable.not_not.1 h2)] at hnq
  obtain ⟨S, hS⟩ : ∃ S, bstr (bs.take 4) = S := ⟨_, rfl⟩
  rw [hS] at hcs hnq
  have hcrc : ∀ W, Below W1.heap.size W1 W → Calls Try.prog 39 #[.int .u32 0, .slice A 18 c] W fun e w' => e = .returned (.int .u32 (crcMore 0 (bs.take 18) : Nat)) ∧ w' = W := fun W hW => by
    have := refCrcMore_c 0 A c (bs.take 18) W (by omega) ((HR1.out.below hW).take 18 (by omega)) (fun x hx => HB.out x (List.mem_of_mem_take hx))
    rwa [show (bs.take 18).length = 18 by rw [List.length_take]; omega] at this
  have hnum : ∀ W, Below W1.heap.size W1 W → Calls Try.prog 46 #[.slice A bs.length c, .int .i64 18, .int .i64 4] W fun e w' => e = .returned (.int .i64 (hdV bs 18 4 : Nat)) ∧ w' = W := fun W hW => num_r A c 18 4 bs W (HR1.out.below hW) HB.out (by decide) (by decide) (by omega)
  have HNUMG : Hid (∀ (at' k : Nat), 1 ≤ k → k ≤ 4 → at' + k ≤ bs.length → ∀ W, Below W1.heap.size W1 W → Calls Try.prog 46 #[.slice A bs.length c, .int .i64 (at' : Nat), .int .i64 (k : Nat)] W fun e w' => e = .returned (.int .i64 (hdV bs at' k : Nat)) ∧ w' = W) := Lib.hid (fun at' k h1 h2 h3 W hW => num_r A c at' k bs W (HR1.out.below hW) HB.out h1 h2 h3)
  have hcl := crcMore_lt 0 (bs.take 18)
  obtain ⟨V18, e18⟩ : ∃ V, hdV bs 18 4 = V := ⟨_, rfl⟩
  obtain ⟨K, eK⟩ : ∃ K, crcMore 0 (bs.take 18) = K := ⟨_, rfl⟩
  rw [e18] at hnum hN
  rw [eK] at hcrc hN hcl
  have HN := Lib.hid hN
  have HCRC := Lib.hid hcrc
  have HNUM := Lib.hid hnum
  have HC7 : IntKind.i64.wrap (K : Int) = (K : Int) := by rw [IntKind.wrap_i64]; omega
  clear hN hcrc hnum hi0 hs0 hS eK e18
  go_enter Try.func25, Try.ntmps25
  go_wp2_with (rw [HW1.out])
  go_cut [30] from 24 to 30 (fun s30 wx => s30 = .bool ((V18 : Int) != (K : Int)) ∧ Below W1.heap.size W1 wx)
  case first =>
    refine wp_region_late [] (fun _ => True) (by kernel_rfl) trivial (fun hT => ?_)
    refine WL.take (i := 0) (v := ?_) rfl (by kernel_rfl) (by kernel_rfl) (by kernel_rfl) (by kernel_rfl) (fun _ _ _ h => h) (Or.inl ⟨by rfl, ?_⟩) (by assumption) ?_
    rotate_left 1
    · (intro w' hSw; (try (replace hSw := hSw (by decide); dsimp only at hSw)); go_split_ands; go_simp; try with_reducible rfl)
    simp only [Act.put, List.getElem_toArray, List.getElem_cons_zero, List.getElem_cons_succ, List.setIfInBounds_toArray, List.set_cons_zero, List.set_cons_succ]
    refine WL.take (i := 2) (v := ?_) rfl (by kernel_rfl) (by kernel_rfl) (by kernel_rfl) (by kernel_rfl) (fun _ _ _ h => h) (Or.inl ⟨by rfl, ?_⟩) (by assumption) ?_
    rotate_left 1
    · (intro w' hSw; (try (replace hSw := hSw (by decide); dsimp only at hSw)); go_split_ands; go_simp; try with_reducible rfl)
    simp only [Act.put, List.getElem_toArray, List.getElem_cons_zero, List.getElem_cons_succ, List.setIfInBounds_toArray, List.set_cons_zero, List.set_cons_succ]
    refine WL.take (i := 3) (v := ?_) rfl (by kernel_rfl) (by kernel_rfl) (by kernel_rfl) (by kernel_rfl) (fun _ _ _ h => h) (Or.inl ⟨by rfl, ?_⟩) (by assumption) ?_
    rotate_left 1
    · (intro w' hSw; (try (replace hSw := hSw (by decide); dsimp only at hSw)); go_split_ands; go_simp; try with_reducible rfl)
    simp only [Act.put, List.getElem_toArray, List.getElem_cons_zero, List.getElem_cons_succ, List.setIfInBounds_toArray, List.set_cons_zero, List.set_cons_succ]
    refine WL.late (i := 1) (by kernel_rfl) rfl (by kernel_rfl) (fun K hK => ?_)
    go_simp
    go_at_call 46
    refine (HNUM.out _ (Below.refl _ _).drew).mono ?_
    rintro e w5 ⟨rfl, hw5⟩
    subst hw5
    go_simp
    refine hK.out _ _ ?_
    clear hK K
    refine WL.late (i := 4) (by kernel_rfl) rfl (by kernel_rfl) (fun K hK => ?_)
    go_simp
    go_at_call 39
    refine (HCRC.out _ (Below.refl _ _).drew).mono ?_
    rintro e w5 ⟨rfl, hw5⟩
    subst hw5
    go_simp
    refine hK.out _ _ ?_
    clear hK K
    refine WL.late (i := 5) (by kernel_rfl) rfl (by kernel_rfl) (fun K hK => ?_)
    go_simp
    refine hK.out _ _ ?_
    clear hK K
    refine WL.late (i := 6) (by kernel_rfl) rfl (by kernel_rfl) (fun K hK => ?_)
    go_simp
    refine hK.out _ _ ?_
    clear hK K
    refine WL.done (by kernel_rfl) ?_ _
    go_wp2_with fail
    go_meet
    exact ⟨rfl, (Below.refl _ _).drew⟩
  case rest =>
    obtain ⟨rfl, hbc⟩ := hcut
    have hgc := (hbc.block w.heap.size hl1).trans HGX.out
    have y0 : wc.cell? ⟨w.heap.size, 0, none⟩ = some (.int .i64 0) := by rw [cell_of_row _ _ _ _ _ _ hgc]; rfl
    have y1 : wc.cell? ⟨w.heap.size, 1, none⟩ = some (.int .i64 0) := by rw [cell_of_row _ _ _ _ _ _ hgc]; rfl
    have y2 : wc.cell? ⟨w.heap.size, 2, none⟩ = some (.slice none 0 0) := by rw [cell_of_row _ _ _ _ _ _ hgc]; rfl
    have x0 : wc.frozen? ⟨w.heap.size, 0, none⟩ = false := frozen_of_row _ _ _ _ _ hgc
    have x1 : wc.frozen? ⟨w.heap.size, 1, none⟩ = false := frozen_of_row _ _ _ _ _ hgc
    have x2 : wc.frozen? ⟨w.heap.size, 2, none⟩ = false := frozen_of_row _ _ _ _ _ hgc
    have HGC := Lib.hid hgc
    have HBC := Lib.hid (HBX.out.trans (hbc.mono hs1))
    have HB1 := Lib.hid hbc
    have HRC := Lib.hid (HR1.out.below hbc)
    clear hgc hbc z0 z1 z2 f0 f1 f2 hcs HNUM HCRC HGX HW1
    by_cases h3 : V18 = K
    · have d3 : ((V18 : Int) != (K : Int)) = false := by simp [h3]
      rw [d3]
      have hN := HN.out
      rw [if_neg (fun hne => hne h3)] at hN
      have HN2 := Lib.hid hN
      clear hN HN h3 d3
      go_wp2_with fail
      go_loop [4] (fun v4 => ∃ i : Nat, 22 ≤ i ∧ i ≤ 128 ∧ v4 = .int .i64 i ∧ ∀ j (hj : j < bs.length), 22 ≤ j → j < i → bs[j] = 0) (fun v4 => 128 - (intOf v4).toNat)
      case atStart => exact ⟨22, by omega, by omega, rfl, fun j hj h1 h2 => by omega⟩
      case round =>
        obtain ⟨i, hi1, hi2, rfl, hall⟩ := hrel
        have HALL := Lib.hid hall
        clear hall
        by_cases hlt : i < 128
        · have dlt : decide ((i : Int) < 128) = true := decide_eq_true (by omega)
          obtain ⟨ad, e, hc⟩ := HRC.out.at i (by omega)
          subst e
          have i0 : (0 : Int) ≤ (i : Int) := by omega
          have i1 : (i : Int) < (bs.length : Int) := by omega
          have hsome := fun (h : bs[i]'(by omega) ≠ 0) => zeros_some (bs := bs) i (by omega) hi1 hlt h
          have hnext : bs[i]'(by omega) = 0 → ∀ j (hj : j < bs.length), 22 ≤ j → j < i + 1 → bs[j] = 0 := fun h j hj h1 h2 => by
            by_cases e : j = i
            · subst e; exact h
            · exact HALL.out j hj h1 (by omega)
          obtain ⟨x, hx⟩ : ∃ x, bs[i]'(by omega) = x := ⟨_, rfl⟩
          rw [hx] at hc hsome hnext
          have HSOME := Lib.hid hsome
          have HNEXT := Lib.hid hnext
          clear hsome hnext hx
          by_cases hx0 : x = 0
          · have dx : ((x : Int) != 0) = false := by simp [hx0]
            have hn := HNEXT.out hx0
            have HNX := Lib.hid hn
            clear hn hx0
            go_wp2_with fail
            exact ⟨⟨i + 1, by omega, by omega, by go_num, HNX.out⟩, by simp [intOf]; omega⟩
          · have dx : ((x : Int) != 0) = true := by simp; omega
            have hN3 : headN bs = 4 := by rw [HN2.out, if_pos (HSOME.out hx0)]
            have HN3 := Lib.hid hN3
            clear hN3
            go_wp2_with fail
            rw [parseP_fail HN3.out (by decide)]
            refine parse_fail_r _ wc w w.heap.size 4 _ _ _ (by rfl) (by rfl) HGC.out HBC.out (Nat.le_refl _)
        · have dlt : decide ((i : Int) < 128) = false := decide_eq_false (by omega)
          have hz := zeros_none (bs := bs) (by omega) (fun j hj h1 h2 => HALL.out j hj h1 (by omega))
          have hN := HN2.out
          rw [if_neg (by rw [hz]; simp)] at hN
          have c1 := HNUMG.out 4 4 (by decide) (by decide) (by omega) wc HB1.out
          have c2 := HNUMG.out 8 2 (by decide) (by decide) (by omega) wc HB1.out
          have c3 := HNUMG.out 10 4 (by decide) (by decide) (by omega) wc HB1.out
          have hv4 := hdV_lt bs 4 4 (by omega) HB.out
          have hv8 := hdV_lt bs 8 2 (by omega) HB.out
          have hv10 := hdV_lt bs 10 4 (by omega) HB.out
          have hv14 := hdV_lt bs 14 4 (by omega) HB.out
          have c4 := fun (h : headN bs = 0) => HNUMG.out 14 4 (by decide) (by decide) (by omega)
          have hP : headN bs = 0 → parseP bs = tableB bs (128 + hdV bs 10 4) (hdV bs 8 2) (hdV bs 4 4) (hdV bs 14 4) := fun h => by unfold parseP; rw [if_neg (by rw [h]; simp)]
          obtain ⟨V4, e4⟩ : ∃ V, hdV bs 4 4 = V := ⟨_, rfl⟩
          obtain ⟨n, e8⟩ : ∃ V, hdV bs 8 2 = V := ⟨_, rfl⟩
          obtain ⟨V10, e10⟩ : ∃ V, hdV bs 10 4 = V := ⟨_, rfl⟩
          obtain ⟨V14, e14⟩ : ∃ V, hdV bs 14 4 = V := ⟨_, rfl⟩
          rw [e4] at c1 hv4 hP hN
          rw [e8] at c2 hv8 hP hN
          rw [e10] at c3 hv10 hP hN
          rw [e14] at c4 hv14 hP
          replace hv4 : V4 < 4294967296 := hv4
          replace hv8 : n < 65536 := hv8
          replace hv10 : V10 < 4294967296 := hv10
          replace hv14 : V14 < 4294967296 := hv14
          have HC1 := Lib.hid c1
          have HC2 := Lib.hid c2
          have HC3 := Lib.hid c3
          have HC4 := Lib.hid c4
          have HP := Lib.hid hP
          have HN3 := Lib.hid hN
          clear c1 c2 c3 c4 hP hN hz HN2 HNUMG e4 e8 e10 e14 HALL
          go_wp2_with fail
          refine HC1.out.mono ?_
          rintro e w5 ⟨rfl, hw5⟩
          subst hw5
          go_wp2_with fail
          refine HC2.out.mono ?_
          rintro e w6 ⟨rfl, hw6⟩
          subst hw6
          go_wp2_with fail
          refine HC3.out.mono ?_
          rintro e w7 ⟨rfl, hw7⟩
          subst hw7
          by_cases o1 : 4096 ≤ V4
          · have p1 : decide ((4095 : Int) < (V4 : Int)) = true := decide_eq_true (by omega)
            have hN4 : headN bs = 6 := by rw [HN3.out, if_pos (.inl o1)]
            have HN4 := Lib.hid hN4
            clear hN4
            go_wp2_with fail
            rw [parseP_fail HN4.out (by decide)]
            refine parse_fail_r _ w7 w w.heap.size 6 _ _ _ (by rfl) (by rfl) HGC.out HBC.out (Nat.le_refl _)
          have p1 : decide ((4095 : Int) < (V4 : Int)) = false := decide_eq_false (by omega)
          by_cases o2 : 64 < n
          · have p2 : decide ((64 : Int) < (n : Int)) = true := decide_eq_true (by omega)
            have hN4 : headN bs = 6 := by rw [HN3.out, if_pos (.inr o2)]
            have HN4 := Lib.hid hN4
            clear hN4
            go_wp2_with fail
            rw [parseP_fail HN4.out (by decide)]
            refine parse_fail_r _ w7 w w.heap.size 6 _ _ _ (by rfl) (by rfl) HGC.out HBC.out (Nat.le_refl _)
          have p2 : decide ((64 : Int) < (n : Int)) = false := decide_eq_false (by omega)
          have w1 : IntKind.i64.wrap ((128 : Int) + V10) = (128 : Int) + V10 := by rw [IntKind.wrap_i64]; omega
          have w34 : IntKind.i64.wrap ((34 : Int) * n) = (34 : Int) * n := by rw [IntKind.wrap_i64]; omega
          have w35 : IntKind.i64.wrap ((128 : Int) + V10 + 34 * n) = (128 : Int) + V10 + 34 * n := by rw [IntKind.wrap_i64]; omega
          by_cases o3 : bs.length < 128 + V10 + 34 * n
          · have p3 : decide ((bs.length : Int) < (128 : Int) + V10 + 34 * n) = true := decide_eq_true (by omega)
            have hN4 : headN bs = 3 := by rw [HN3.out, if_neg (by omega), if_pos o3]
            have HN4 := Lib.hid hN4
            clear hN4
            go_wp2_with fail
            rw [parseP_fail HN4.out (by decide)]
            refine parse_fail_r _ w7 w w.heap.size 3 _ _ _ (by rfl) (by rfl) HGC.out HBC.out (Nat.le_refl _)
          have p3 : decide ((bs.length : Int) < (128 : Int) + V10 + 34 * n) = false := decide_eq_false (by omega)
          have hN4 : headN bs = 0 := by rw [HN3.out, if_neg (by omega), if_neg o3]
          have hP2 := HP.out hN4
          have hC4 := HC4.out hN4
          obtain ⟨i0, hi0, hs0⟩ := info_u8''
          obtain ⟨A2, s2, r2⟩ := RN.mid (P := Try.prog) 27 5 .u8 Try.underlying27 hi0 hs0 A bs.length c (128 + V10) (128 + V10 + 34 * n) (by omega) (by omega) hcap
          rw [show 128 + V10 + 34 * n - (128 + V10) = 34 * n by omega] at s2 r2
          rw [show ((128 + V10 + 34 * n : Nat) : Int) = 128 + (V10 : Int) + 34 * (n : Int) by omega, show ((128 + V10 : Nat) : Int) = 128 + (V10 : Int) by omega] at s2
          have hcrc : ∀ W, Below w7.heap.size w7 W → Calls Try.prog 39 #[.int .u32 0, .slice A2 (34 * n) (c - (128 + V10))] W fun e w' => e = .returned (.int .u32 (crcMore 0 ((bs.drop (128 + V10)).take (34 * n)) : Nat)) ∧ w' = W := fun W hW => by
            have := refCrcMore_c 0 A2 (c - (128 + V10)) ((bs.drop (128 + V10)).take (34 * n)) W (by omega) (r2 W bs rfl (HRC.out.below hW)) (fun x hx => HB.out x (List.mem_of_mem_drop (List.mem_of_mem_take hx)))
            rwa [show ((bs.drop (128 + V10)).take (34 * n)).length = 34 * n by rw [List.length_take, List.length_drop]; omega] at this
          have hcl2 := crcMore_lt 0 ((bs.drop (128 + V10)).take (34 * n))
          have hT : tableB bs (128 + V10) n V4 V14 = if crcMore 0 ((bs.drop (128 + V10)).take (34 * n)) ≠ V14 then (5, 0, 0, []) else if ¬ ∀ i < n, okB bs (128 + V10) i then (2, 0, 0, []) else if atB bs (128 + V10) n ≠ 128 + V10 then (4, 0, 0, []) else (0, V4, (128 + V10 + 34 * n + 127) / 128, slotsB bs (128 + V10) n) := rfl
          obtain ⟨K2, hK2⟩ : ∃ K2, crcMore 0 ((bs.drop (128 + V10)).take (34 * n)) = K2 := ⟨_, rfl⟩
          rw [hK2] at hcrc hcl2 hT
          obtain ⟨R, hR⟩ : ∃ R, tableB bs (128 + V10) n V4 V14 = R := ⟨_, rfl⟩
          rw [hR] at hT
          have HPR := Lib.hid (hP2.trans hR)
          have HT := Lib.hid hT
          have HCRC := Lib.hid hcrc
          have HC44 := Lib.hid (fun W (hW : Below w7.heap.size w7 W) => hC4 W (HB1.out.trans (hW.mono HB1.out.size)))
          clear hcrc hT hR hK2 HP hP2 hC4 HC4 hN4 HN3 hi0 hs0 HC1 HC2 HC3 r2
          have HC8 : IntKind.i64.wrap (K2 : Int) = (K2 : Int) := by rw [IntKind.wrap_i64]; omega
          obtain ⟨X, hX⟩ : ∃ X, X = w7 := ⟨_, rfl⟩
          subst hX
          go_wp2_with fail
          go_cut [74] from 66 to 74 (fun s74 wx => s74 = .bool ((V14 : Int) != (K2 : Int)) ∧ Below X.heap.size X wx)
          case first =>
            refine wp_region_late [] (fun _ => True) (by kernel_rfl) trivial (fun hT => ?_)
            refine WL.take (i := 0) (v := ?_) rfl (by kernel_rfl) (by kernel_rfl) (by kernel_rfl) (by kernel_rfl) (fun _ _ _ h => h) (Or.inl ⟨by rfl, ?_⟩) (by assumption) ?_
            rotate_left 1
            · (intro w' hSw; (try (replace hSw := hSw (by decide); dsimp only at hSw)); go_split_ands; go_simp; try with_reducible rfl)
            simp only [Act.put, List.getElem_toArray, List.getElem_cons_zero, List.getElem_cons_succ, List.setIfInBounds_toArray, List.set_cons_zero, List.set_cons_succ]
            refine WL.take (i := 2) (v := ?_) rfl (by kernel_rfl) (by kernel_rfl) (by kernel_rfl) (by kernel_rfl) (fun _ _ _ h => h) (Or.inl ⟨by rfl, ?_⟩) (by assumption) ?_
            rotate_left 1
            · (intro w' hSw; (try (replace hSw := hSw (by decide); dsimp only at hSw)); go_split_ands; go_simp; try with_reducible rfl)
            simp only [Act.put, List.getElem_toArray, List.getElem_cons_zero, List.getElem_cons_succ, List.setIfInBounds_toArray, List.set_cons_zero, List.set_cons_succ]
            refine WL.take (i := 3) (v := ?_) rfl (by kernel_rfl) (by kernel_rfl) (by kernel_rfl) (by kernel_rfl) (fun _ _ _ h => h) (Or.inl ⟨by rfl, ?_⟩) (by assumption) ?_
            rotate_left 1
            · (intro w' hSw; (try (replace hSw := hSw (by decide); dsimp only at hSw)); go_split_ands; go_simp; try with_reducible rfl)
            simp only [Act.put, List.getElem_toArray, List.getElem_cons_zero, List.getElem_cons_succ, List.setIfInBounds_toArray, List.set_cons_zero, List.set_cons_succ]
            refine WL.take (i := 4) (v := ?_) rfl (by kernel_rfl) (by kernel_rfl) (by kernel_rfl) (by kernel_rfl) (fun _ _ _ h => h) (Or.inl ⟨by rfl, ?_⟩) (by assumption) ?_
            rotate_left 1
            · (intro w' hSw; (try (replace hSw := hSw (by decide); dsimp only at hSw)); go_split_ands; go_simp; try with_reducible rfl)
            simp only [Act.put, List.getElem_toArray, List.getElem_cons_zero, List.getElem_cons_succ, List.setIfInBounds_toArray, List.set_cons_zero, List.set_cons_succ]
            refine WL.take (i := 5) (v := ?_) rfl (by kernel_rfl) (by kernel_rfl) (by kernel_rfl) (by kernel_rfl) (fun _ _ _ h => h) (Or.inl ⟨by rfl, ?_⟩) (by assumption) ?_
            rotate_left 1
            · (intro w' hSw; (try (replace hSw := hSw (by decide); dsimp only at hSw)); go_split_ands; go_simp; try with_reducible rfl)
            simp only [Act.put, List.getElem_toArray, List.getElem_cons_zero, List.getElem_cons_succ, List.setIfInBounds_toArray, List.set_cons_zero, List.set_cons_succ]
            refine WL.late (i := 1) (by kernel_rfl) rfl (by kernel_rfl) (fun K hK => ?_)
            go_simp
            go_at_call 46
            refine (HC44.out _ (Below.refl _ _).drew).mono ?_
            rintro e w5 ⟨rfl, hw5⟩
            subst hw5
            go_simp
            refine hK.out _ _ ?_
            clear hK K
            refine WL.late (i := 6) (by kernel_rfl) rfl (by kernel_rfl) (fun K hK => ?_)
            go_simp
            go_at_call 39
            refine (HCRC.out _ (Below.refl _ _).drew).mono ?_
            rintro e w5 ⟨rfl, hw5⟩
            subst hw5
            go_simp
            refine hK.out _ _ ?_
            clear hK K
            refine WL.late (i := 7) (by kernel_rfl) rfl (by kernel_rfl) (fun K hK => ?_)
            go_simp
            refine hK.out _ _ ?_
            clear hK K
            refine WL.late (i := 8) (by kernel_rfl) rfl (by kernel_rfl) (fun K hK => ?_)
            go_simp
            refine hK.out _ _ ?_
            clear hK K
            refine WL.done (by kernel_rfl) ?_ _
            go_wp2_with fail
            go_meet
            exact ⟨rfl, (Below.refl _ _).drew⟩
          case rest =>
            obtain ⟨rfl, hbc⟩ := hcut
            have hlX : w.heap.size < X.heap.size := (Array.getElem?_eq_some_iff.1 HGC.out).1
            have hgd := (hbc.block w.heap.size hlX).trans HGC.out
            have HGD := Lib.hid hgd
            have HBD := Lib.hid (HBC.out.trans (hbc.mono HBC.out.size))
            have HRD := Lib.hid (HRC.out.below hbc)
            clear hbc y0 y1 y2 x0 x1 x2 HC44 HCRC HGC HBC HRC HR1 HBX hgd hlX HB1
            obtain ⟨Y, hY⟩ : ∃ Y, Y = wc := ⟨_, rfl⟩
            subst hY
            by_cases h4 : K2 = V14
            · have d4 : ((V14 : Int) != (K2 : Int)) = false := by simp [h4]
              rw [d4]
              have hT := HT.out
              rw [if_neg (fun hne => hne h4)] at hT
              have HT2 := Lib.hid hT
              clear hT HT h4 d4
              obtain ⟨sec, hsec⟩ : ∃ sec, (128 + V10 + 34 * n + 127) / 128 = sec := ⟨_, rfl⟩
              have HSEC := Lib.hid hsec
              obtain ⟨T, hTo⟩ : ∃ T, 128 + V10 + 34 * n = T := ⟨_, rfl⟩
              have hTi : (128 : Int) + V10 + 34 * n = (T : Int) := by omega
              rw [hTo] at hsec
              have tq : ((128 : Int) + V10 + 34 * n).tdiv 128 = ((T / 128 : Nat) : Int) := by rw [hTi, Int.tdiv_eq_ediv_of_nonneg (by omega)]; omega
              have tr : ((128 : Int) + V10 + 34 * n).tmod 128 = ((T % 128 : Nat) : Int) := by rw [hTi, Int.tmod_eq_emod_of_nonneg (by omega)]; omega
              have wq : IntKind.i64.wrap ((T / 128 : Nat) : Int) = ((T / 128 : Nat) : Int) := by rw [IntKind.wrap_i64]; omega
              have wr' : IntKind.i64.wrap ((T % 128 : Nat) : Int) = ((T % 128 : Nat) : Int) := by rw [IntKind.wrap_i64]; omega
              have hqs : 0 < T % 128 → T / 128 + 1 = sec := fun h => by omega
              have hqz : ¬ 0 < T % 128 → T / 128 = sec := fun h => by omega
              have hqb : T / 128 < 100000000 := by omega
              have hrb : T % 128 < 128 := Nat.mod_lt _ (by decide)
              obtain ⟨Q, hQ⟩ : ∃ Q, T / 128 = Q := ⟨_, rfl⟩
              obtain ⟨M, hM⟩ : ∃ M, T % 128 = M := ⟨_, rfl⟩
              rw [hQ] at tq wq hqs hqz hqb
              rw [hM] at tr wr' hqs hqz hrb
              clear hQ hM hsec hTi hTo
              go_upto_region 23 with (fail)
              go_cut [10] from 76 to 79 (fun s10 wx => s10 = .pointer (some ⟨Y.heap.size, 0, none⟩) ∧ wx.heap[Y.heap.size]? = some (.cells #[.int .i64 (V4 : Nat), .int .i64 (Q : Nat), .slice none 0 0] 53 (0, 0)) ∧ Below Y.heap.size Y wx)
              case first =>
                have hbn : Below Y.heap.size Y (Y.alloc (.cells #[.int .i64 (V4 : Nat), .int .i64 (Q : Nat), .slice none 0 0] 53)) := (Below.refl _ _).alloc (Nat.le_refl _) _
                have hgn : (Y.alloc (.cells #[.int .i64 (V4 : Nat), .int .i64 (Q : Nat), .slice none 0 0] 53)).heap[Y.heap.size]? = some (.cells #[.int .i64 (V4 : Nat), .int .i64 (Q : Nat), .slice none 0 0] 53 (0, 0)) := heap_alloc_new _ _
                go_wp2_with fail
                go_meet
                exact ⟨rfl, hgn, hbn⟩
              case rest =>
                obtain ⟨rfl, hg5, hb5⟩ := hcut
                obtain ⟨Z, hZ⟩ : ∃ Z, Z = wc := ⟨_, rfl⟩
                subst hZ
                have HG5 := Lib.hid hg5
                have HB5 := Lib.hid hb5
                have hlz : Y.heap.size < Z.heap.size := (Array.getElem?_eq_some_iff.1 hg5).1
                have v1 : Z.cell? ⟨Y.heap.size, 1, none⟩ = some (.int .i64 (Q : Nat)) := by rw [cell_of_row _ _ _ _ _ _ hg5]; rfl
                have v2 : Z.frozen? ⟨Y.heap.size, 1, none⟩ = false := frozen_of_row _ _ _ _ _ hg5
                clear hg5 hb5
                go_upto_if 82 with (fail)
                go_cut [] from 83 to 86 (fun wx => wx.heap[Y.heap.size]? = some (.cells #[.int .i64 (V4 : Nat), .int .i64 (sec : Nat), .slice none 0 0] 53 (0, 0)) ∧ Below Y.heap.size Y wx)
                case first =>
                  by_cases h5 : 0 < M
                  · have d5 : decide ((0 : Int) < (M : Int)) = true := decide_eq_true (by omega)
                    have e5 := hqs h5
                    have w5 : IntKind.i64.wrap ((Q : Int) + 1) = (Q : Int) + 1 := by rw [IntKind.wrap_i64]; omega
                    have e6 : (Q : Int) + 1 = (sec : Int) := by omega
                    go_wp2_with fail
                    go_meet
                    exact ⟨by rw [← e6]; exact heap_setCell_same Z Y.heap.size 1 _ _ _ HG5.out, HB5.out.setCell (Nat.le_refl _) _⟩
                  · have d5 : decide ((0 : Int) < (M : Int)) = false := decide_eq_false (by omega)
                    have e5 := hqz h5
                    go_wp2_with fail
                    go_meet
                    exact ⟨by rw [← e5]; exact HG5.out, HB5.out⟩
                case rest =>
                  obtain ⟨hg6, hb6⟩ := hcut
                  have hl6 : Y.heap.size < wc.heap.size := (Array.getElem?_eq_some_iff.1 hg6).1
                  have hlY : w.heap.size < Y.heap.size := (Array.getElem?_eq_some_iff.1 HGD.out).1
                  have HG6 := Lib.hid hg6
                  have HZ6 := Lib.hid ((hb6.block w.heap.size hlY).trans HGD.out)
                  have HB6 := Lib.hid (HBD.out.trans (hb6.mono HBD.out.size))
                  clear hg6 hb6 v1 v2 tq tr wq wr' hqs hqz hqb hrb hlz HG5 HB5 HGD HRD
                  go_wp2_with fail
                  go_loopw [11, 12] (fun va vi W => ∃ i, i ≤ n ∧ vi = .int .i64 ((128 : Int) + V10 + 34 * i) ∧ va = .int .i64 (atB bs (128 + V10) i : Nat) ∧ (∀ j < i, okB bs (128 + V10) j) ∧ ScanMid bs (128 + V10) V4 sec w Y.heap.size i W) (fun _ vi _ => 128 + V10 + 34 * n - (intOf vi).toNat)
                  case atStart =>
                    exact ⟨0, Nat.zero_le _, by simp, rfl, fun j h => by omega, none, 0, Nat.le_refl _, own_nilV _ _ _ _, HG6.out, HZ6.out, HB6.out, hl6⟩
                  case round =>
                    obtain ⟨i, hi, rfl, rfl, hok, A4, c4, hic, ho, hgr, hzr, hbr, hl8⟩ := hrel
                    have z0 : wr.cell? ⟨w.heap.size, 0, none⟩ = some (.int .i64 0) := by rw [cell_of_row _ _ _ _ _ _ hzr]; rfl
                    have z1 : wr.cell? ⟨w.heap.size, 1, none⟩ = some (.int .i64 0) := by rw [cell_of_row _ _ _ _ _ _ hzr]; rfl
                    have z2 : wr.cell? ⟨w.heap.size, 2, none⟩ = some (.slice none 0 0) := by rw [cell_of_row _ _ _ _ _ _ hzr]; rfl
                    have f0 : wr.frozen? ⟨w.heap.size, 0, none⟩ = false := frozen_of_row _ _ _ _ _ hzr
                    have f1 : wr.frozen? ⟨w.heap.size, 1, none⟩ = false := frozen_of_row _ _ _ _ _ hzr
                    have f2 : wr.frozen? ⟨w.heap.size, 2, none⟩ = false := frozen_of_row _ _ _ _ _ hzr
                    have HOK := Lib.hid hok
                    have HO := Lib.hid ho
                    have HGR := Lib.hid hgr
                    have HZR := Lib.hid hzr
                    have HBR := Lib.hid hbr
                    have hat := atB_le bs (128 + V10) i hok
                    have HRR := Lib.hid (HR.out.below hbr)
                    clear hok ho hgr hzr hbr
                    by_cases hlt : i < n
                    · have dlt : decide ((128 : Int) + V10 + 34 * i < (128 : Int) + V10 + 34 * n) = true := decide_eq_true (by omega)
                      have hn := num_r A c (128 + V10 + 34 * i + 32) 2 bs wr HRR.out HB.out (by decide) (by decide) (by omega)
                      rw [show ((128 + V10 + 34 * i + 32 : Nat) : Int) = (128 : Int) + V10 + 34 * i + 32 by omega] at hn
                      have hLe : hdV bs (128 + V10 + 34 * i + 32) 2 = longB bs (128 + V10) i := rfl
                      have hLl : longB bs (128 + V10) i < 65536 := hdV_lt bs _ 2 (by omega) HB.out
                      have hsl : (slotB bs (128 + V10) i) = ((slotB bs (128 + V10) i).1, atB bs (128 + V10) i, longB bs (128 + V10) i) := rfl
                      have hqe : (slotB bs (128 + V10) i).1 = (bs.drop (128 + V10 + 34 * i)).take 32 := rfl
                      have hql : (slotB bs (128 + V10) i).1.length = 32 := by rw [hqe, List.length_take, List.length_drop]; omega
                      have hqg : ∀ k, k < 32 → (slotB bs (128 + V10) i).1[k]? = bs[128 + V10 + 34 * i + k]? := fun k hk => by rw [hqe, List.getElem?_take, if_pos hk, List.getElem?_drop]
                      have hss := slotsB_succ bs (128 + V10) i
                      have hokk : okB bs (128 + V10) i ↔ 1 ≤ longB bs (128 + V10) i ∧ longB bs (128 + V10) i ≤ 512 := Iff.rfl
                      have hats : atB bs (128 + V10) (i + 1) = atB bs (128 + V10) i + longB bs (128 + V10) i := rfl
                      rw [hLe] at hn
                      obtain ⟨q, hq⟩ : ∃ q, (slotB bs (128 + V10) i).1 = q := ⟨_, rfl⟩
                      obtain ⟨Ln, hLn⟩ : ∃ Ln, longB bs (128 + V10) i = Ln := ⟨_, rfl⟩
                      obtain ⟨a, ha⟩ : ∃ a, atB bs (128 + V10) i = a := ⟨_, rfl⟩
                      rw [hq] at hsl hql hqg
                      rw [hLn] at hn hLl hsl hokk hats
                      rw [ha] at hsl hat hats ⊢
                      have hbl := built_slot2 q (a : Int) (Ln : Int)
                      have HNN := Lib.hid hn
                      have HSL := Lib.hid hsl
                      have HSS := Lib.hid hss
                      have HOKK := Lib.hid hokk
                      have HATS := Lib.hid hats
                      have HQL := Lib.hid hql
                      have HQG := Lib.hid hqg
                      obtain ⟨D0, hD0⟩ : ∃ D0, fillQ q 0 a Ln = D0 := ⟨_, rfl⟩
                      rw [hD0] at hbl
                      have HD0 := Lib.hid hD0
                      have HZ34 := Lib.hid zeroS_size
                      have hdt := zeroS_set q a Ln
                      rw [hD0] at hdt
                      have HDT := Lib.hid hdt
                      clear hdt
                      have hDs : D0.size = 34 := by rw [← hD0]; exact fillQ_size _ _ _ _
                      have hD1 : D0.all (·.oneCell') = true := by rw [← hD0]; exact fillQ_one _ _ _ _
                      have HD1 := Lib.hid hD1
                      have HDS := Lib.hid hDs
                      have HINF : Hid ((Try.prog.info? 38).map (·.size) = some D0.size) := Lib.hid (by rw [hDs]; exact infoS)
                      have HZS := Lib.hid (zeroS_size.trans hDs.symm)
                      have hz := zeroS_eq
                      clear hn hLe hsl hss hokk hats hql hq hqe hLn ha hqg hD0 hD1 hDs
                      have w32 : IntKind.i64.wrap ((128 : Int) + V10 + 34 * i + 32) = (128 : Int) + V10 + 34 * i + 32 := by rw [IntKind.wrap_i64]; omega
                      have hgn : (wr.alloc (.cells zeroS 38)).heap[wr.heap.size]? = some (.cells zeroS 38 (0, 0)) := heap_alloc_new _ _
                      have hbn : Below wr.heap.size wr ((wr.alloc (.cells zeroS 38)).setRow wr.heap.size D0) := below_setRow ((Below.refl _ _).alloc (Nat.le_refl _) _) (Nat.le_refl _) _
                      have HGN := Lib.hid hgn
                      have HBN := Lib.hid hbn
                      clear hgn hbn
                      obtain ⟨U, hU⟩ : ∃ U, U = wr := ⟨_, rfl⟩
                      subst hU
                      go_upto_region 30 with (fail)
                      go_cut [13] from 93 to 98 (fun s13 wx => s13 = .pointer (some ⟨U.heap.size, 0, none⟩) ∧ wx.heap[U.heap.size]? = some (.cells D0 38 (0, 0)) ∧ Below U.heap.size U wx)
                      case first =>
                        go_wp2_with fail
                        refine HNN.out.mono ?_
                        rintro e w5 ⟨rfl, hw5⟩
                        subst hw5
                        have hst := store_new 38 w5 zeroS D0 HZS.out HD1.out
                        rw [HDT.out] at hst
                        have hz2 := HZ34.out
                        have hDs := HDS.out
                        go_wp2_with fail
                        go_meet
                        exact ⟨rfl, setRow_heap _ _ _ _ _ _ HGN.out, HBN.out⟩
                      case rest =>
                        obtain ⟨rfl, hgu, hbu⟩ := hcut
                        rw [← HD0.out] at hgu
                        have HGU := Lib.hid hgu
                        have HBU := Lib.hid hbu
                        clear hgu hbu hbl z0 z1 z2 f0 f1 f2 hz
                        go_wp2_with fail
                        go_loopw [14] (fun v14 W => ∃ k : Nat, k ≤ 32 ∧ v14 = .int .i64 (k : Nat) ∧ W.heap[U.heap.size]? = some (.cells (fillQ q k a Ln) 38 (0, 0)) ∧ Below U.heap.size U W) (fun v14 _ => 32 - (intOf v14).toNat)
                        case atStart => exact ⟨0, by omega, rfl, HGU.out, HBU.out⟩
                        case round =>
                          obtain ⟨k, hk, rfl, hgk, hbk⟩ := hrel
                          have HGK := Lib.hid hgk
                          have HBK := Lib.hid hbk
                          by_cases hk2 : k < 32
                          · have dk : decide ((k : Int) < 32) = true := decide_eq_true (by omega)
                            obtain ⟨ad, e, hc⟩ := (HRR.out.below hbk).at (128 + V10 + 34 * i + k) (by omega)
                            subst e
                            have hx : q[k]? = some (bs[128 + V10 + 34 * i + k]'(by omega)) := by rw [HQG.out k hk2, List.getElem?_eq_getElem]
                            have hst := fillQ_set q k a Ln hk2 _ hx
                            obtain ⟨x, hxx⟩ : ∃ x, bs[128 + V10 + 34 * i + k]'(by omega) = x := ⟨_, rfl⟩
                            rw [hxx] at hc hst
                            have q0 : wr.cell? ⟨U.heap.size, k, none⟩ = some (.int .u8 0) := by rw [cell_of_row _ _ _ _ _ _ hgk]; exact fillQ_at _ _ _ _ hk2
                            have q1 : wr.frozen? ⟨U.heap.size, k, none⟩ = false := frozen_of_row _ _ _ _ _ hgk
                            have wk : IntKind.i64.wrap ((128 : Int) + V10 + 34 * i + k) = (128 : Int) + V10 + 34 * i + k := by rw [IntKind.wrap_i64]; omega
                            have t1 : (0 : Int) ≤ (128 : Int) + V10 + 34 * i + k := by omega
                            have t2 : (128 : Int) + V10 + 34 * i + k < (bs.length : Int) := by omega
                            have t3 : ((128 : Int) + V10 + 34 * i + k).toNat = 128 + V10 + 34 * i + k := by omega
                            have HST := Lib.hid hst
                            clear hst hgk hbk hxx hx
                            go_wp2_with fail
                            exact ⟨⟨k + 1, by omega, by go_num, by have := heap_setCell_same wr U.heap.size k _ _ (.int .u8 (x : Nat)) HGK.out; rwa [HST.out] at this, HBK.out.setCell (Nat.le_refl _) _⟩, by simp [intOf]; omega⟩
                          · have dk : decide ((k : Int) < 32) = false := decide_eq_false (by omega)
                            obtain rfl : k = 32 := by omega
                            have hu33 : wr.cell? ⟨U.heap.size, 33, none⟩ = some (.int .i64 (Ln : Nat)) := by rw [cell_of_row _ _ _ _ _ _ hgk]; exact fillQ_33 _ _ _ _
                            have hll : Y.heap.size < U.heap.size := hl8
                            have hlw : w.heap.size < Y.heap.size := hlY
                            have hzr := (hbk.block w.heap.size (by omega)).trans HZR.out
                            have hgr := (hbk.block Y.heap.size hl8).trans HGR.out
                            have z0 : wr.cell? ⟨w.heap.size, 0, none⟩ = some (.int .i64 0) := by rw [cell_of_row _ _ _ _ _ _ hzr]; rfl
                            have z1 : wr.cell? ⟨w.heap.size, 1, none⟩ = some (.int .i64 0) := by rw [cell_of_row _ _ _ _ _ _ hzr]; rfl
                            have z2 : wr.cell? ⟨w.heap.size, 2, none⟩ = some (.slice none 0 0) := by rw [cell_of_row _ _ _ _ _ _ hzr]; rfl
                            have f0 : wr.frozen? ⟨w.heap.size, 0, none⟩ = false := frozen_of_row _ _ _ _ _ hzr
                            have f1 : wr.frozen? ⟨w.heap.size, 1, none⟩ = false := frozen_of_row _ _ _ _ _ hzr
                            have f2 : wr.frozen? ⟨w.heap.size, 2, none⟩ = false := frozen_of_row _ _ _ _ _ hzr
                            have u2 : wr.cell? ⟨Y.heap.size, 2, none⟩ = some (.slice A4 i c4) := by rw [cell_of_row _ _ _ _ _ _ hgr]; rfl
                            have HZR2 := Lib.hid hzr
                            have HGR2 := Lib.hid hgr
                            have HBW := Lib.hid (HBR.out.trans (hbk.mono HBR.out.size))
                            clear hgk hbk hzr hgr HGU HBU HRR HGN HBN HD1 HINF HZS HZ34 HDT HD0
                            by_cases o5 : Ln < 1
                            · have d1 : decide ((Ln : Int) < 1) = true := decide_eq_true (by omega)
                              have hno : ¬ ∀ i < n, okB bs (128 + V10) i := fun h => by have := HOKK.out.1 (h i hlt); omega
                              go_wp2_with fail
                              rw [HPR.out, HT2.out, if_pos hno]
                              refine parse_fail_r _ wr w w.heap.size 2 _ _ _ (by rfl) (by rfl) HZR2.out HBW.out (Nat.le_refl _)
                            have d1 : decide ((Ln : Int) < 1) = false := decide_eq_false (by omega)
                            by_cases o6 : 512 < Ln
                            · have d2 : decide ((512 : Int) < (Ln : Int)) = true := decide_eq_true (by omega)
                              have hno : ¬ ∀ i < n, okB bs (128 + V10) i := fun h => by have := HOKK.out.1 (h i hlt); omega
                              go_wp2_with fail
                              rw [HPR.out, HT2.out, if_pos hno]
                              refine parse_fail_r _ wr w w.heap.size 2 _ _ _ (by rfl) (by rfl) HZR2.out HBW.out (Nat.le_refl _)
                            have d2 : decide ((512 : Int) < (Ln : Int)) = false := decide_eq_false (by omega)
                            clear z0 z1 z2 f0 f1 f2
                            go_upto_region 37 with (fail)
                            have hfu := fillQ_full q (a : Int) (Ln : Int) HQL.out
                            obtain ⟨E, hE⟩ : ∃ E, fillQ q 32 a Ln = E := ⟨_, rfl⟩
                            have hgk := HGK.out
                            rw [hE] at hgk hfu
                            have hEs : E.size = 34 := by rw [← hE]; exact fillQ_size _ _ _ _
                            have hE1 : E.all (·.oneCell') = true := by rw [← hE]; exact fillQ_one _ _ _ _
                            have hEl : E.toList = flatS [slotB bs (128 + V10) i] := by rw [hfu, HSL.out]; simp [flatS, slCells]
                            have HE33 := Lib.hid (show E[33]? = some (.int .i64 (Ln : Nat)) from by rw [← hE]; exact fillQ_33 _ _ _ _)
                            have HEI : Hid ((Try.prog.info? 38).map (·.size) = some E.size) := Lib.hid (by rw [hEs]; exact infoS)
                            have HES := Lib.hid hEs
                            have HE1 := Lib.hid hE1
                            have HEL := Lib.hid hEl
                            have HGE := Lib.hid hgk
                            have hlr : U.heap.size < wr.heap.size := (Array.getElem?_eq_some_iff.1 hgk).1
                            have hbA : Below wr.heap.size wr (wr.alloc (.cells E 38)) := (Below.refl _ _).alloc (Nat.le_refl _) _
                            have hoA := pw_own_below (pw_own_below HO.out HBK.out) hbA
                            have hrA : RV 38 (wr.alloc (.cells E 38)) (some ⟨wr.heap.size, 0, none⟩) 1 E.toList := ⟨by omega, fun _ => ⟨_, 0, rfl, ⟨_, _, heap_alloc_new _ _⟩, fun j u hu => by rw [cell_of_row _ _ _ _ _ _ (heap_alloc_new _ _), Nat.zero_add]; simpa using hu⟩⟩
                            have hoU := HO.out
                            have HOU := Lib.hid hoU
                            have HBA := Lib.hid hbA
                            have HOA := Lib.hid hoA
                            have HRA := Lib.hid hrA
                            have hsA : wr.heap.size ≤ (wr.alloc (.cells E 38)).heap.size := hbA.size
                            clear hfu hgk hE hEs hE1 hEl hbA hoA hrA hoU d1 d2 dk dlt
                            go_cut [] from 121 to 126 (fun wx => ScanMid bs (128 + V10) V4 sec w Y.heap.size (i + 1) wx ∧ wx.cell? ⟨U.heap.size, 33, none⟩ = some (.int .i64 (Ln : Nat)))
                            case first =>
                              go_wp2_with (first
                                | (refine wpList_load_row rfl 38 (.tmp 13) rfl U.heap.size rfl 38 E (0, 0) _ HGE.out Try.underlying38 (by rfl) HEI.out ?_)
                                | (refine wpList_buildSlice1 rfl 51 38 (.tmp 123) rfl E 34 Try.underlying51 infoS2 HES.out (by decide) (by decide) rfl ?_)
                                | (at_builtin; refine wpList_append_RV (Y.heap.size + 1) rfl (.tmp 122) (.tmp 124) 51 38 (.agg zeroS) 34 48 rfl Try.underlying51 infoS3 zeroS_size (by decide) (.slice A4 i c4) i (flatS (slotsB bs (128 + V10) i)) (some ⟨wr.heap.size, 0, none⟩) 1 1 E.toList rfl rfl HOA.out HRA.out (by rw [Array.length_toList, HES.out]) (fun u hu => Array.all_eq_true_iff_forall_mem.1 HE1.out u (Array.mem_toList_iff.1 hu)) (by omega) (by omega) (by omega) ?_; intro v7 w7 ho7 hg7
                                   obtain ⟨A7, c7, e7, hc7, hr7, _⟩ := RV.ofOwn ho7
                                   subst e7
                                   have hb7 : Below (Y.heap.size + 1) wr w7 := (HBA.out.mono (by omega)).grown hg7 (by omega) (fun j ej => own_base HOA.out j ej)
                                   have hgr7 := (Gr.of_grown (S := fun k => k < U.heap.size) hg7 (fun k hk => own_lt HOU.out k hk)).block U.heap.size (by omega) (by omega)
                                   have h7 := (hb7.block Y.heap.size (by omega)).trans HGR2.out
                                   have hz7 := (hb7.block w.heap.size (by omega)).trans HZR2.out
                                   have K2 : w7.cell? ⟨Y.heap.size, 2, none⟩ = some (.slice A4 i c4) := by rw [cell_of_row _ _ _ _ _ _ h7]; rfl
                                   have K3 : w7.frozen? ⟨Y.heap.size, 2, none⟩ = false := frozen_of_row _ _ _ _ _ h7))
                              go_meet
                              rw [HEL.out, ← flatS_append, ← HSS.out] at ho7
                              have hbw := HBW.out.trans (hb7.mono (Nat.le_succ_of_le (Nat.le_of_lt hlw)))
                              have hgu := hgr7.trans ((HBA.out.block U.heap.size hlr).trans HGE.out)
                              have hgu2 := keep_setCell (v := .slice A7 (i + 1) c7) (x := undef) hgu hll
                              refine ⟨scanMid_put hc7 ho7 h7 hz7 hbw hlw, ?_⟩
                              rw [cell_of_row _ _ _ _ _ _ hgu2]
                              exact HE33.out
                            case rest =>
                              have HCUT := Lib.hid hcut.1
                              have hk33 := hcut.2
                              have wat : IntKind.i64.wrap ((a : Int) + Ln) = (a : Int) + Ln := by rw [IntKind.wrap_i64]; omega
                              have wi4 : IntKind.i64.wrap ((128 : Int) + V10 + 34 * i + 34) = (128 : Int) + V10 + 34 * i + 34 := by rw [IntKind.wrap_i64]; omega
                              clear hcut hu33 u2
                              go_wp2_with fail
                              exact ⟨⟨i + 1, by omega, by congr 1, by rw [HATS.out]; first | rfl | go_num | simp, fun j hj => by
                                by_cases e : j = i
                                · subst e; exact HOKK.out.2 ⟨by omega, by omega⟩
                                · exact HOK.out j (by omega), HCUT.out⟩, by simp [intOf]; omega⟩
                    · have dlt : decide ((128 : Int) + V10 + 34 * i < (128 : Int) + V10 + 34 * n) = false := decide_eq_false (by omega)
                      obtain rfl : i = n := by omega
                      have hT := HT2.out
                      rw [if_neg (fun h => h HOK.out)] at hT
                      obtain ⟨a, ha⟩ : ∃ a, atB bs (128 + V10) i = a := ⟨_, rfl⟩
                      rw [ha] at hT hat ⊢
                      have g0 : wr.cell? ⟨Y.heap.size, 0, none⟩ = some (.int .i64 (V4 : Nat)) := by rw [cell_of_row _ _ _ _ _ _ HGR.out]; rfl
                      have g1 : wr.cell? ⟨Y.heap.size, 1, none⟩ = some (.int .i64 (sec : Nat)) := by rw [cell_of_row _ _ _ _ _ _ HGR.out]; rfl
                      have g2 : wr.cell? ⟨Y.heap.size, 2, none⟩ = some (.slice A4 i c4) := by rw [cell_of_row _ _ _ _ _ _ HGR.out]; rfl
                      by_cases ho : a ≠ 128 + V10
                      · have e1 : ((a : Int) != (128 : Int) + (V10 : Int)) = true := by simp; omega
                        rw [if_pos ho] at hT
                        have HT3 := Lib.hid hT
                        clear hT ho ha
                        go_wp2_with fail
                        rw [HPR.out, HT3.out]
                        refine parse_fail_r _ wr w w.heap.size 4 _ _ _ (by rfl) (by rfl) HZR.out HBR.out (Nat.le_refl _)
                      · have e1 : ((a : Int) != (128 : Int) + (V10 : Int)) = false := by simp; omega
                        rw [if_neg ho] at hT
                        have HT3 := Lib.hid hT
                        clear hT ho ha
                        go_wp2_with fail
                        have hlen := slotsB_len bs (128 + V10) i
                        obtain ⟨A9, c9, e9, hc9, hr9, _⟩ := RV.ofOwn HO.out
                        injection e9 with e9 _ _
                        subst e9
                        have hzw : w.heap.size ≤ w.heap.size := Nat.le_refl _
                        rw [HPR.out, HT3.out, HSEC.out]
                        refine parse_ret_r _ _ w w.heap.size (0, V4, sec, slotsB bs (128 + V10) i) A4 c4 (by rfl) (by rfl) ?_ ?_ (((HBR.out.setCell hzw _).setCell hzw _).setCell hzw _)
                        · show _ = some (Obj.cells #[.int .i64 (V4 : Nat), .int .i64 (sec : Nat), .slice A4 (slotsB bs (128 + V10) i).length c4] 53 (0, 0))
                          rw [hlen]
                          exact bin_set3 wr w.heap.size _ _ _ _ _ _ HZR.out
                        · show RV 38 _ A4 (slotsB bs (128 + V10) i).length (flatS (slotsB bs (128 + V10) i))
                          rw [hlen]
                          have t1 := heap_setCell_same wr w.heap.size 0 _ _ (.int .i64 (V4 : Nat)) HZR.out
                          have t2 := heap_setCell_same _ w.heap.size 1 _ _ (.int .i64 (sec : Nat)) t1
                          exact RV.setOther (RV.setOther (RV.setOther hr9 HZR.out (by decide)) t1 (by decide)) t2 (by decide)
            · have d4 : ((V14 : Int) != (K2 : Int)) = true := by simp; omega
              rw [d4]
              have hT := HT.out
              rw [if_pos h4] at hT
              have HT2 := Lib.hid hT
              have z0 : Y.cell? ⟨w.heap.size, 0, none⟩ = some (.int .i64 0) := by rw [cell_of_row _ _ _ _ _ _ HGD.out]; rfl
              have z1 : Y.cell? ⟨w.heap.size, 1, none⟩ = some (.int .i64 0) := by rw [cell_of_row _ _ _ _ _ _ HGD.out]; rfl
              have z2 : Y.cell? ⟨w.heap.size, 2, none⟩ = some (.slice none 0 0) := by rw [cell_of_row _ _ _ _ _ _ HGD.out]; rfl
              have f0 : Y.frozen? ⟨w.heap.size, 0, none⟩ = false := frozen_of_row _ _ _ _ _ HGD.out
              have f1 : Y.frozen? ⟨w.heap.size, 1, none⟩ = false := frozen_of_row _ _ _ _ _ HGD.out
              have f2 : Y.frozen? ⟨w.heap.size, 2, none⟩ = false := frozen_of_row _ _ _ _ _ HGD.out
              clear hT HT h4 d4
              go_wp2_with fail
              rw [HPR.out, HT2.out]
              refine parse_fail_r _ Y w w.heap.size 5 _ _ _ (by rfl) (by rfl) HGD.out HBD.out (Nat.le_refl _)
    · have d3 : ((V18 : Int) != (K : Int)) = true := by simp; omega
      rw [d3]
      have hN := HN.out
      rw [if_pos h3] at hN
      have HN2 := Lib.hid hN
      clear hN h3 d3
      go_wp2_with fail
      rw [parseP_fail HN2.out (by decide)]
      refine parse_fail_r _ wc w w.heap.size 5 _ _ _ (by rfl) (by rfl) HGC.out HBC.out (Nat.le_refl _)
end Go.Proofs.Ytejmklfhcealnaa.F
