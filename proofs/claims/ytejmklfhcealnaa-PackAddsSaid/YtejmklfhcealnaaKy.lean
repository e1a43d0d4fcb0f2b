/- The sums; a chunk of a packer. -/
import Derived.Test.YtejmklfhcealnaaKx
set_option linter.unusedVariables false
set_option linter.unusedSimpArgs false
namespace Go.Proofs.Ytejmklfhcealnaa.F
open Go.RowKit Go.Proofs.YtejmklfhcealnaaW.PrintWords
attribute [local go_sem ↓] Go.wp_at_zero Go.wp_at_succ

theorem zeros32_cells : (Value.agg zeros32).cells.size = 32 := tabK_size _ _ _
theorem infoZ3 : (Try.prog.info? 36).map (fun i => (i.zero, i.size, i.bytes)) = some (some (.agg zeros32), 32, 32) := by kernel_rfl
theorem infoZ2 : (Try.prog.info? 36).map (fun i => (i.zero, i.size)) = some (some (.agg zeros32), 32) := by kernel_rfl
theorem wpList_buildSlice1 {P : Program} {ops : Array Oper} {rest : List Oper} {o : Oper} {a : Act} {Q : Exit → Act → World → Prop} {w : World} (hg : o.guard = none) (t e : TypeId) (x : Operand) (ho : o.op = .buildSlice t 1 #[(0, x)]) (C : Array Value) {z : Value} (n : Nat) (hu : P.underlying t = some (.slice e)) (hinf : (P.info? e).map (fun i => (i.zero, i.size)) = some (some z, n)) (hC : C.size = n) (hn : 0 < n) (hn2 : n ≤ 1000)
    (hx : a.eval x = .agg C) (h : wpList P ops Q rest (a.put o.dst (.slice (some ⟨w.heap.size, 0, none⟩) 1 1)) (w.alloc (.cells C e))) : wpList P ops Q (o :: rest) a w :=
  wpList_plain hg fun _ hK => wp_buildSlice1 t e x ho C n hu hinf hC hn hn2 hx (hK _ _ h)
/-- The cells of sums, one behind the other. -/
def sumsF (L : List (List Nat)) : List Value := L.flatMap fun p => (sumN p).map (encN .u8)
theorem sumsF_len (L : List (List Nat)) : (sumsF L).length = L.length * 32 := by
  induction L with
  | nil => rfl
  | cons p r ih =>
    rw [show sumsF (p :: r) = (sumN p).map (encN .u8) ++ sumsF r from rfl, List.length_append, ih, List.length_map, sumN_len, List.length_cons]
    omega
theorem sumsF_take (L : List (List Nat)) (i : Nat) (h : i < L.length) : sumsF (L.take (i + 1)) = sumsF (L.take i) ++ (sumN L[i]).map (encN .u8) := by
  unfold sumsF
  rw [List.take_succ_eq_append_getElem h, List.flatMap_append]
  simp
theorem slCells_rangeSum {W : World} {g : Nat} {t : TypeId} {z : Nat × Nat} {q : List Nat} {a : Nat} (hg : W.heap[g]? = some (.cells (slCells (sumN q, a, q.length)).toArray t z)) : W.rangeAt g 0 ((sumN q).map (encN .u8)) := fun j v hv => by
  rw [cell_of_row _ _ _ _ _ _ hg, Nat.zero_add]
  unfold slCells
  rw [List.getElem?_toArray, List.getElem?_append_left (List.getElem?_eq_some_iff.1 hv).1]
  exact hv
set_option maxRecDepth 20000 in
set_option maxHeartbeats 4000000 in
theorem Sums_c (b id wide : Nat) (L : List (List Nat)) (w : World) (h : PK sumN w b id wide L) (hch : Chunks L) :
    Calls Try.prog 18 #[.pointer (some ⟨b, 0, none⟩)] w fun e w' => ∃ v, e = .returned v ∧ w'.ownsRow w.heap.size 36 32 v L.length (sumsF L) ∧ Below w.heap.size w w' := by
  have hb := h.lt
  obtain ⟨A0, c0, A2, c2, F, hFF, h1, h2, h3, h4, h5⟩ := h
  have k2 : w.cell? ⟨b, 2, none⟩ = some (.slice A0 L.length c0) := by rw [cell_of_row _ _ _ _ _ _ h1]; rfl
  have hl64 := hch.1
  have H2 := Lib.hid h2
  have HCH := Lib.hid hch
  have n0 : (L.length : Int) ≤ 64 := by omega
  clear h1 h2 h3 hFF hch
  go_enter Try.func18, Try.ntmps18
  go_wp2_with fail
  go_loopw [3, 13] (fun vo vi W => ∃ i : Nat, i ≤ L.length ∧ vi = .int .i64 i ∧ W.ownsRow w.heap.size 36 32 vo i (sumsF (L.take i)) ∧ Below w.heap.size w W) (fun _ vi _ => L.length - (intOf vi).toNat)
  case atStart => exact ⟨0, by omega, rfl, own_nilV _ _ _ _, Below.refl _ _⟩
  case round =>
    obtain ⟨i, hi, rfl, ho, hB⟩ := hrel
    obtain ⟨A3, c3, e3, hc3, hr3, _⟩ := RV.ofOwn ho
    have hs := hB.size
    subst e3
    have HO := Lib.hid ho
    have HB := Lib.hid hB
    clear ho hB hr3 k2
    by_cases hlt : i < L.length
    · have hd : decide ((i : Int) < L.length) = true := decide_eq_true (by omega)
      have i0 : (0 : Int) ≤ (i : Int) := by omega
      have i1 : (i : Int) < (L.length : Int) := by omega
      have hsl := H2.out.below HB.out
      rw [show L.length = (slotsFrom sumN 128 L).length by rw [slotsFrom_len]] at hsl
      obtain ⟨g, o, e, hrange⟩ := hsl.slot (slots_32 128 L) i (by rw [slotsFrom_len]; exact hlt)
      obtain ⟨a, ha, ha2⟩ := slots_get L i hlt
      rw [ha] at hrange
      subst e
      have hst := sumsF_take L i hlt
      obtain ⟨q, hqe⟩ : ∃ q, L[i] = q := ⟨_, rfl⟩
      rw [hqe] at hrange hst
      have hCl : (slCells (sumN q, a, q.length)).length = 34 := slCells_len (sumN_len q)
      have hC1 := slCells_one (sumN q, a, q.length)
      have hgz : (wr.alloc (.cells zeroS 38)).heap[wr.heap.size]? = some (.cells zeroS 38 (0, 0)) := heap_alloc_new _ _
      have hrgs := slCells_rangeSum (setRow_heap _ _ _ (slCells (sumN q, a, q.length)).toArray _ _ hgz)
      obtain ⟨Cl, hCl'⟩ : ∃ Cl, slCells (sumN q, a, q.length) = Cl := ⟨_, rfl⟩
      rw [hCl'] at hrange hCl hC1 hrgs
      have hYl : ((sumN q).map (encN .u8)).length = 32 := by simp [sumN_len]
      have hY1 : ∀ u ∈ ((sumN q).map (encN .u8)), u.oneCell' = true := fun u hu => by
        obtain ⟨x, _, rfl⟩ := List.mem_map.1 hu
        rfl
      obtain ⟨Y, hY⟩ : ∃ Y, (sumN q).map (encN .u8) = Y := ⟨_, rfl⟩
      rw [hY] at hrgs hYl hY1 hst
      have HST := Lib.hid hst
      have HRG := Lib.hid hrange
      have HC1 := Lib.hid (Go.all_oneCell_toArray hC1)
      have hinf : (Try.prog.info? 38).map (·.size) = some Cl.length := by rw [hCl]; exact infoS
      have hinf2 : (Try.prog.info? 38).map (·.size) = some Cl.toArray.size := by rw [List.size_toArray, hCl]; exact infoS
      have hinf3 : (Try.prog.info? 36).map (·.size) = some Y.length := by rw [hYl]; exact info32
      have HI := Lib.hid hinf
      have HI2 := Lib.hid hinf2
      have HI3 := Lib.hid hinf3
      have hzs : zeroS.size = Cl.toArray.size := zeroS_size.trans (by rw [List.size_toArray, hCl])
      have HZS := Lib.hid hzs
      have hz := zeroS_eq
      have HGZ := Lib.hid hgz
      have hbs : Below wr.heap.size wr ((wr.alloc (.cells zeroS 38)).setRow wr.heap.size Cl.toArray) := below_setRow ((Below.refl _ _).alloc (Nat.le_refl _) _) (Nat.le_refl _) _
      have HRGS := Lib.hid hrgs
      have HYL : Hid (Y.toArray.size = 32) := Lib.hid (by rw [List.size_toArray, hYl])
      have hbn := hbs.alloc hbs.size (.cells Y.toArray 36)
      have HBN := Lib.hid hbn
      have HON := Lib.hid (pw_own_below HO.out hbn)
      have hrv : RV 36 (((wr.alloc (.cells zeroS 38)).setRow wr.heap.size Cl.toArray).alloc (.cells Y.toArray 36)) (some ⟨((wr.alloc (.cells zeroS 38)).setRow wr.heap.size Cl.toArray).heap.size, 0, none⟩) 1 Y := ⟨by omega, fun _ => ⟨_, 0, rfl, ⟨_, _, heap_alloc_new _ _⟩, fun j x hx => by
        rw [cell_of_row _ _ _ _ _ _ (heap_alloc_new _ _), Nat.zero_add]
        simpa using hx⟩⟩
      have HRV := Lib.hid hrv
      have HYL2 : Hid (Y.length = 1 * 32) := Lib.hid (by rw [hYl])
      have HY1 := Lib.hid hY1
      have hsn : w.heap.size ≤ (((wr.alloc (.cells zeroS 38)).setRow wr.heap.size Cl.toArray).alloc (.cells Y.toArray 36)).heap.size := Nat.le_trans hs hbn.size
      clear hsl hrange ha hst hqe hCl hC1 hCl' hinf hinf2 hinf3 hzs hgz hrgs hYl hY1 hY hbs hbn hrv
      go_wp2_with (first
        | (refine wpList_load_mid rfl 38 (.tmp 15) rfl g (o + i * 34) rfl Cl _ HRG.out Try.underlying38 (by rfl) HI.out ?_)
        | (refine wpList_store_row rfl 38 (.tmp 5) (.tmp 16) rfl wr.heap.size rfl Cl.toArray zeroS rfl 38 HGZ.out HI2.out HZS.out HC1.out ?_)
        | (refine wpList_load_mid rfl 36 (.tmp 18) rfl wr.heap.size 0 rfl Y _ HRGS.out Try.underlying36 (by rfl) HI3.out ?_)
        | (refine wpList_buildSlice1 rfl 42 36 (.tmp 19) rfl Y.toArray 32 Try.underlying42 infoZ2 HYL.out (by decide) (by decide) rfl ?_)
        | (at_builtin; refine wpList_append_RV w.heap.size rfl (.tmp 17) (.tmp 20) 42 36 (.agg zeros32) 32 32 rfl Try.underlying42 infoZ3 zeros32_cells (by decide) (.slice A3 i c3) i (sumsF (L.take i)) (some ⟨((wr.alloc (.cells zeroS 38)).setRow wr.heap.size Cl.toArray).heap.size, 0, none⟩) 1 1 Y rfl rfl HON.out HRV.out HYL2.out HY1.out hsn (by omega) (by omega) ?_; intro v7 w7 ho7 hg7))
      have hb7 : Below w.heap.size w w7 := HB.out.trans ((HBN.out.mono hs).grown hg7 hsn (fun j ej => own_base HO.out j ej))
      exact ⟨⟨i + 1, by omega, by go_num, by rw [HST.out]; exact ho7, hb7⟩, by simp [intOf]; omega⟩
    · have hd : decide ((i : Int) < L.length) = false := decide_eq_false (by omega)
      obtain rfl : i = L.length := by omega
      rw [List.take_length] at HO
      go_wp2_with fail
      go_ret
      exact ⟨_, rfl, HO.out, HB.out⟩
theorem flat_mid (L : List (List Nat)) (i : Nat) (h : i < L.length) : (L.flatten.drop (L.take i).flatten.length).take L[i].length = L[i] := by
  have e : L.flatten = (L.take i).flatten ++ (L[i] ++ (L.drop (i + 1)).flatten) := by
    conv => lhs; rw [← List.take_append_drop i L, List.flatten_append, List.drop_eq_getElem_cons h, List.flatten_cons]
  rw [e, List.drop_append_of_le_length (by omega), List.drop_of_length_le (by omega), List.nil_append, List.take_append_of_le_length (by omega), List.take_of_length_le (by omega)]
set_option maxHeartbeats 1000000 in
theorem ChunkM_bad (b id wide : Nat) (L : List (List Nat)) (i : Int) (w : World) (h : PK sumN w b id wide L) (hL : L.length ≤ 64) (hi : i < 0 ∨ (L.length : Int) ≤ i) :
    Calls Try.prog 22 #[.pointer (some ⟨b, 0, none⟩), .int .i64 i] w fun e w' => e = .returned (.tuple #[.slice none 0 0, .int .i64 9]) ∧ w' = w := by
  obtain ⟨A0, c0, A2, c2, F, hFF, h1, h2, h3, h4, h5⟩ := h
  have k2 : w.cell? ⟨b, 2, none⟩ = some (.slice A0 L.length c0) := by rw [cell_of_row _ _ _ _ _ _ h1]; rfl
  clear h1 h2 h3 h4 h5 hFF
  by_cases h0 : i < 0
  · have d1 : decide (i < 0) = true := decide_eq_true h0
    go_enter Try.func22, Try.ntmps22
    go_wp2_with fail
    go_ret2
    exact ⟨rfl, rfl⟩
  · have d1 : decide (i < 0) = false := decide_eq_false h0
    have d2 : decide ((L.length : Int) ≤ i) = true := decide_eq_true (by omega)
    go_enter Try.func22, Try.ntmps22
    go_wp2_with fail
    go_ret2
    exact ⟨rfl, rfl⟩
set_option maxRecDepth 20000 in
set_option maxHeartbeats 4000000 in
theorem ChunkM_c (b id wide : Nat) (L : List (List Nat)) (i : Nat) (w : World) (h : PK sumN w b id wide L) (hch : Chunks L) (hlt : i < L.length) :
    Calls Try.prog 22 #[.pointer (some ⟨b, 0, none⟩), .int .i64 (i : Nat)] w fun e w' => ∃ v, e = .returned (.tuple #[v, .int .i64 0]) ∧ OwnN .u8 5 w' w.heap.size v L[i] ∧ Below w.heap.size w w' := by
  have hb := h.lt
  obtain ⟨A0, c0, A2, c2, F, hFF, h1, h2, h3, h4, h5⟩ := h
  have k2 : w.cell? ⟨b, 2, none⟩ = some (.slice A0 L.length c0) := by rw [cell_of_row _ _ _ _ _ _ h1]; rfl
  have k3 : w.cell? ⟨b, 3, none⟩ = some (.slice A2 F.length c2) := by rw [cell_of_row _ _ _ _ _ _ h1]; rfl
  have hl64 := hch.1
  have hfl := hch.flat.1
  have hmid := flat_mid L i hlt
  have hle := flat_take_le L (i + 1)
  have hft := flat_take L i hlt
  have hq := hch.2 _ (List.getElem_mem hlt)
  rw [← hFF] at hmid hle hfl
  have n0 : (L.length : Int) ≤ 64 := by omega
  have d1 : decide ((i : Int) < 0) = false := decide_eq_false (by omega)
  have d2 : decide ((L.length : Int) ≤ i) = false := decide_eq_false (by omega)
  have d2' : decide (L.length ≤ i) = false := decide_eq_false (by omega)
  have i0 : (0 : Int) ≤ (i : Int) := by omega
  have i1 : (i : Int) < (L.length : Int) := by omega
  have hsl := h2
  rw [show L.length = (slotsFrom sumN 128 L).length by rw [slotsFrom_len]] at hsl
  obtain ⟨g, o, e, hrange⟩ := hsl.slot (slots_32 128 L) i (by rw [slotsFrom_len]; exact hlt)
  obtain ⟨a, ha, ha2⟩ := slots_get L i hlt
  rw [ha] at hrange
  subst e
  obtain ⟨q, hqe⟩ : ∃ q, L[i] = q := ⟨_, rfl⟩
  rw [hqe] at hrange hmid hft hq
  obtain ⟨pre, hpre⟩ : ∃ pre, (L.take i).flatten.length = pre := ⟨_, rfl⟩
  rw [hpre] at hmid hft ha2
  have hpq : pre + q.length ≤ F.length := by omega
  have hCl : (slCells (sumN q, a, q.length)).length = 34 := slCells_len (sumN_len q)
  have hC1 := slCells_one (sumN q, a, q.length)
  have hgz : (w.alloc (.cells zeroS 38)).heap[w.heap.size]? = some (.cells zeroS 38 (0, 0)) := heap_alloc_new _ _
  have hgs := setRow_heap _ _ _ (slCells (sumN q, a, q.length)).toArray _ _ hgz
  have k33 : (slCells (sumN q, a, q.length)).toArray[33]? = some (.int .i64 (q.length : Nat)) := slCells_last q a
  have k32 : (slCells (sumN q, a, q.length)).toArray[32]? = some (.int .i64 (a : Nat)) := by
    unfold slCells
    rw [List.getElem?_toArray, List.getElem?_append_right (by simp [sumN_len])]
    simp [sumN_len]
  obtain ⟨Cl, hCl'⟩ : ∃ Cl, slCells (sumN q, a, q.length) = Cl := ⟨_, rfl⟩
  rw [hCl'] at hrange hCl hC1 hgs k32 k33
  have hbs : Below w.heap.size w ((w.alloc (.cells zeroS 38)).setRow w.heap.size Cl.toArray) := below_setRow ((Below.refl _ _).alloc (Nat.le_refl _) _) (Nat.le_refl _) _
  have j32 : ((w.alloc (.cells zeroS 38)).setRow w.heap.size Cl.toArray).cell? ⟨w.heap.size, 32, none⟩ = some (.int .i64 (a : Nat)) := by rw [cell_of_row _ _ _ _ _ _ hgs]; exact k32
  have j33 : ((w.alloc (.cells zeroS 38)).setRow w.heap.size Cl.toArray).cell? ⟨w.heap.size, 33, none⟩ = some (.int .i64 (q.length : Nat)) := by rw [cell_of_row _ _ _ _ _ _ hgs]; exact k33
  have hinf : (Try.prog.info? 38).map (·.size) = some Cl.length := by rw [hCl]; exact infoS
  have hinf2 : (Try.prog.info? 38).map (·.size) = some Cl.toArray.size := by rw [List.size_toArray, hCl]; exact infoS
  have hzs : zeroS.size = Cl.toArray.size := zeroS_size.trans (by rw [List.size_toArray, hCl])
  obtain ⟨u0, hu0, hs0⟩ := info_u8''
  obtain ⟨A', hx, hy⟩ := RN.mid (P := Try.prog) 27 5 .u8 Try.underlying27 hu0 hs0 A2 F.length c2 pre (pre + q.length) (by omega) hpq h5
  rw [show pre + q.length - pre = q.length by omega] at hx hy
  rw [show (((pre + q.length : Nat)) : Int) = (pre : Int) + q.length by omega] at hx
  have hry := hy _ F rfl (h3.rn.below hbs)
  rw [hmid] at hry
  have hz := zeroS_eq
  have hac : (a : Int) - 128 = (pre : Int) := by omega
  have hac2 : (128 : Int) ≤ (a : Int) := by omega
  have hac3 : (a : Int) ≤ 40000 := by omega
  have j3 := (hbs.cell (p := ⟨b, 3, none⟩) hb).trans k3
  have HRG := Lib.hid hrange
  have HI := Lib.hid hinf
  have HI2 := Lib.hid hinf2
  have HZS := Lib.hid hzs
  have HC1 := Lib.hid (Go.all_oneCell_toArray hC1)
  have HGZ := Lib.hid hgz
  have HRY := Lib.hid hry
  have HBS := Lib.hid hbs
  have hp1 : (pre : Int) + q.length ≤ (F.length : Int) := by omega
  have hp2 : (F.length : Int) ≤ 32768 := by omega
  have hp3 : (F.length : Int) ≤ (c2 : Int) := by omega
  have hwp : IntKind.i64.wrap ((pre : Int) + q.length) = (pre : Int) + q.length := by rw [IntKind.wrap_i64]; omega
  have hq512 := hq.2.1
  have hcq : q.length ≤ c2 - pre := by omega
  have HQE := Lib.hid hqe
  have JJ33 := Lib.hid j33
  have JJ3 := Lib.hid j3
  have HX := Lib.hid hx
  clear hsl hrange ha hqe hCl hC1 hCl' hinf hinf2 hzs hgz hgs hbs hmid hle hft hq hpre hfl h1 h2 h3 h4 h5 hFF ha2 k32 k33 hy hu0 hs0 hry hpq hch
  go_enter Try.func22, Try.ntmps22
  go_wp2_with (first
    | (refine wpList_load_mid rfl 38 (.tmp 28) rfl g (o + i * 34) rfl Cl _ HRG.out Try.underlying38 (by rfl) HI.out ?_)
    | (refine wpList_store_row rfl 38 (.tmp 6) (.tmp 29) rfl w.heap.size rfl Cl.toArray zeroS rfl 38 HGZ.out HI2.out HZS.out HC1.out ?_))
  have hgl : ((w.alloc (.cells zeroS 38)).setRow w.heap.size Cl.toArray).heap.size = w.heap.size + 1 := by simp [World.setRow]
  have j3 := JJ3.out
  have j33 := JJ33.out
  have hry := HRY.out
  have hbs := HBS.out
  generalize (w.alloc (.cells zeroS 38)).setRow w.heap.size Cl.toArray = ws at hgl j3 j33 hry hbs ⊢
  have hx := HX.out
  refine wp_region_late [3, 7] (fun w' => w'.cell? ⟨b, 3, none⟩ = some (.slice A2 F.length c2) ∧ w'.cell? ⟨w.heap.size, 33, none⟩ = some (.int .i64 (q.length : Nat))) (by kernel_rfl) ⟨j3, j33⟩ (fun hT => ?_)
  refine WL.take (i := 0) (v := ?_) rfl (by kernel_rfl) (by kernel_rfl) (by kernel_rfl) (by kernel_rfl) (fun _ _ _ h => h) (Or.inl ⟨by rfl, ?_⟩) (by assumption) ?_
  rotate_left 1
  · (intro w' hSw; (try (replace hSw := hSw (by decide); dsimp only at hSw)); go_split_ands; go_simp; try with_reducible rfl)
  simp only [Act.put, List.getElem_toArray, List.getElem_cons_zero, List.getElem_cons_succ, List.setIfInBounds_toArray, List.set_cons_zero, List.set_cons_succ]
  refine WL.take (i := 1) (v := ?_) rfl (by kernel_rfl) (by kernel_rfl) (by kernel_rfl) (by kernel_rfl) (fun _ _ _ h => h) (Or.inl ⟨by rfl, ?_⟩) (by assumption) ?_
  rotate_left 1
  · (intro w' hSw; (try (replace hSw := hSw (by decide); dsimp only at hSw)); go_split_ands; go_simp; try with_reducible rfl)
  simp only [Act.put, List.getElem_toArray, List.getElem_cons_zero, List.getElem_cons_succ, List.setIfInBounds_toArray, List.set_cons_zero, List.set_cons_succ]
  refine WL.take (i := 2) (v := ?_) rfl (by kernel_rfl) (by kernel_rfl) (by kernel_rfl) (by kernel_rfl) (fun _ _ _ h => h) (Or.inl ⟨by rfl, ?_⟩) (by assumption) ?_
  rotate_left 1
  · (intro w' hSw; (try (replace hSw := hSw (by decide); dsimp only at hSw)); go_split_ands; go_simp; try with_reducible rfl)
  simp only [Act.put, List.getElem_toArray, List.getElem_cons_zero, List.getElem_cons_succ, List.setIfInBounds_toArray, List.set_cons_zero, List.set_cons_succ]
  refine WL.take (i := 3) (v := ?_) rfl (by kernel_rfl) (by kernel_rfl) (by kernel_rfl) (by kernel_rfl) (fun _ _ _ h => h) (Or.inl ⟨by rfl, ?_⟩) (by assumption) ?_
  rotate_left 1
  · (intro w' hSw; (try (replace hSw := hSw (by decide); dsimp only at hSw)); go_split_ands; go_simp; try with_reducible rfl)
  simp only [Act.put, List.getElem_toArray, List.getElem_cons_zero, List.getElem_cons_succ, List.setIfInBounds_toArray, List.set_cons_zero, List.set_cons_succ]
  refine WL.take (i := 4) (v := ?_) rfl (by kernel_rfl) (by kernel_rfl) (by kernel_rfl) (by kernel_rfl) (fun _ _ _ h => h) (Or.inl ⟨by rfl, ?_⟩) (by assumption) ?_
  rotate_left 1
  · (intro w' hSw; (try (replace hSw := hSw (by decide); dsimp only at hSw)); go_split_ands; go_simp; try with_reducible rfl)
  simp only [Act.put, List.getElem_toArray, List.getElem_cons_zero, List.getElem_cons_succ, List.setIfInBounds_toArray, List.set_cons_zero, List.set_cons_succ]
  refine WL.take (i := 5) (v := ?_) rfl (by kernel_rfl) (by kernel_rfl) (by kernel_rfl) (by kernel_rfl) (fun _ _ _ h => h) (Or.inl ⟨by rfl, ?_⟩) (by assumption) ?_
  rotate_left 1
  · (intro w' hSw; (try (replace hSw := hSw (by decide); dsimp only at hSw)); go_split_ands; go_simp; try with_reducible rfl)
  simp only [Act.put, List.getElem_toArray, List.getElem_cons_zero, List.getElem_cons_succ, List.setIfInBounds_toArray, List.set_cons_zero, List.set_cons_succ]
  refine WL.take (i := 6) (v := ?_) rfl (by kernel_rfl) (by kernel_rfl) (by kernel_rfl) (by kernel_rfl) (fun _ _ _ h => h) (Or.inl ⟨by rfl, ?_⟩) (by assumption) ?_
  rotate_left 1
  · (intro w' hSw; (try (replace hSw := hSw (by decide); dsimp only at hSw)); go_split_ands; go_simp; try with_reducible rfl)
  simp only [Act.put, List.getElem_toArray, List.getElem_cons_zero, List.getElem_cons_succ, List.setIfInBounds_toArray, List.set_cons_zero, List.set_cons_succ]
  refine WL.take (i := 7) (v := ?_) rfl (by kernel_rfl) (by kernel_rfl) (by kernel_rfl) (by kernel_rfl) (fun _ _ _ h => h) (Or.inl ⟨by rfl, ?_⟩) (by assumption) ?_
  rotate_left 1
  · (intro w' hSw; (try (replace hSw := hSw (by decide); dsimp only at hSw)); go_split_ands; go_simp; try with_reducible rfl)
  simp only [Act.put, List.getElem_toArray, List.getElem_cons_zero, List.getElem_cons_succ, List.setIfInBounds_toArray, List.set_cons_zero, List.set_cons_succ]
  refine WL.take (i := 8) (v := ?_) rfl (by kernel_rfl) (by kernel_rfl) (by kernel_rfl) (by kernel_rfl) (fun _ _ _ h => h) (Or.inl ⟨by rfl, ?_⟩) (by assumption) ?_
  rotate_left 1
  · (intro w' hSw; (try (replace hSw := hSw (by decide); dsimp only at hSw)); go_split_ands; go_simp; try with_reducible rfl)
  simp only [Act.put, List.getElem_toArray, List.getElem_cons_zero, List.getElem_cons_succ, List.setIfInBounds_toArray, List.set_cons_zero, List.set_cons_succ]
  refine WL.take (i := 9) (v := ?_) rfl (by kernel_rfl) (by kernel_rfl) (by kernel_rfl) (by kernel_rfl) (fun _ _ _ h => h) (Or.inl ⟨by rfl, ?_⟩) (by assumption) ?_
  rotate_left 1
  · (intro w' hSw; (try (replace hSw := hSw (by decide); dsimp only at hSw)); go_split_ands; go_simp; try with_reducible rfl)
  simp only [Act.put, List.getElem_toArray, List.getElem_cons_zero, List.getElem_cons_succ, List.setIfInBounds_toArray, List.set_cons_zero, List.set_cons_succ]
  refine WL.late (i := 10) (by kernel_rfl) rfl (by kernel_rfl) (fun K hK => ?_)
  go_simp
  go_at_call 35
  refine (CloneB_c A' (c2 - pre) q _ (hry.below (Below.refl _ _).drew) (by omega) hcq).mono ?_
  rintro e w5 ⟨v5, rfl, ho5, hb5⟩
  replace hb5 : Below ws.heap.size ws w5 := ⟨hb5.os, hb5.tape, hb5.output, hb5.size, hb5.block⟩
  replace ho5 : OwnN .u8 5 w5 ws.heap.size v5 q := ho5
  have hb9 := hbs.trans (hb5.mono (by omega))
  have ho9 := ho5.lower (b := w.heap.size) (by omega)
  rw [← HQE.out] at ho9
  clear hT j3 j33 hry hbs hb5 ho5 hx
  go_simp
  refine hK.out _ _ ?_
  clear hK K
  refine WL.late (i := 11) (by kernel_rfl) rfl (by kernel_rfl) (fun K hK => ?_)
  go_simp
  refine hK.out _ _ ?_
  clear hK K
  refine WL.late (i := 12) (by kernel_rfl) rfl (by kernel_rfl) (fun K hK => ?_)
  go_simp
  refine hK.out _ _ ?_
  clear hK K
  refine WL.done (by kernel_rfl) ?_ _
  go_wp2_with fail
  go_ret2
  exact ⟨_, rfl, ho9, hb9⟩
end Go.Proofs.Ytejmklfhcealnaa.F
