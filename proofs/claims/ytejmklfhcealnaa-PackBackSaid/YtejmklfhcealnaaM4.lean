/- Two containers, the same; what bytes say, by both: walked. -/
import Derived.Test.YtejmklfhcealnaaM2
import Derived.Test.YtejmklfhcealnaaM3
import Derived.Test.YtejmklfhcealnaaWEqStruct
import Derived.Test.YtejmklfhcealnaaM5
set_option linter.unusedVariables false
set_option linter.unusedSimpArgs false
namespace Go.Proofs.Ytejmklfhcealnaa.F
open Go.RowKit Go.Proofs.YtejmklfhcealnaaW.PrintWords

def Slot256 (s : Sl) : Prop := s.1.length = 32 ∧ ∀ x ∈ s.1, x < 256
theorem eq_slot (s : Sl) (h : Slot256 s) (w : World) : (Op.equalIn 10000 38 (.agg (slCells s).toArray) (.agg (slCells s).toArray)).run Try.prog w = .ok (true && (true && true)) w := by
  obtain ⟨q, a, n⟩ := s
  have hl : q.length = 32 := h.1
  have hp : ∀ W : World, (part 36 (slCells (q, a, n)).toArray 0).run Try.prog W = .ok (.agg (q.map (encN .u8)).toArray) W := fun W => by
    have e : (slCells (q, a, n)).toArray.extract 0 32 = (q.map (encN .u8)).toArray := by
      unfold slCells
      simp [hl, List.take_append_of_le_length]
    have hz : (sizeOf 36).run Try.prog W = .ok 32 W := by kernel_rfl
    have ha : (isAgg 36).run Try.prog W = .ok true W := by kernel_rfl
    unfold part
    simp only [Sem.run_bind, ha, hz, Result.andThen_ok, if_true, Sem.run_pure, Nat.zero_add, e]
  have h32 : (slCells (q, a, n)).toArray[32]? = some (.int .i64 (a : Nat)) := by
    unfold slCells
    rw [List.getElem?_toArray, List.getElem?_append_right (by simp [hl])]
    simp [hl]
  have h33 : (slCells (q, a, n)).toArray[33]? = some (.int .i64 (n : Nat)) := by
    unfold slCells
    rw [List.getElem?_toArray, List.getElem?_append_right (by simp [hl])]
    simp [hl]
  have p32 : ∀ W : World, (part 3 (slCells (q, a, n)).toArray 32).run Try.prog W = .ok (.int .i64 (a : Nat)) W := fun W => by simp [part, go_sem, Try.isAgg3, h32]
  have p33 : ∀ W : World, (part 3 (slCells (q, a, n)).toArray 33).run Try.prog W = .ok (.int .i64 (n : Nat)) W := fun W => by simp [part, go_sem, Try.isAgg3, h33]
  have he : (Op.equalIn 9999 36 (.agg (q.map (encN .u8)).toArray) (.agg (q.map (encN .u8)).toArray)).run Try.prog w = .ok true w := by
    rw [bytes_cells q h.2, run_equalIn_bytes w 9997 36 5 32 Try.underlying36 Try.underlying5 (fun _ => by kernel_rfl) _ _ (by simp [hl]) (by simp [hl])]
    simp
  obtain ⟨D, hD⟩ : ∃ D, (slCells (q, a, n)).toArray = D := ⟨_, rfl⟩
  rw [hD] at hp p32 p33 ⊢
  refine eqA_of (d := 9999) Try.underlying38 (by kernel_rfl) ?_
  refine eqf_cons rfl (hp w) (hp w) he ?_
  refine eqf_cons rfl (p32 w) (p32 w) ?_ ?_
  · rw [run_equalIn_int w 9998 3 .i64 .i64 _ _ Try.underlying3]; simp
  · refine eqf_last rfl (p33 w) (p33 w) ?_
    rw [run_equalIn_int w 9998 3 .i64 .i64 _ _ Try.underlying3]; simp
theorem neq_slot (s : Sl) (h : Slot256 s) (w : World) : Sem.run Try.prog (binOp BinOp.neq 38 (.agg (slCells s).toArray) (.agg (slCells s).toArray)) w = .ok (.bool false) w := by
  rw [run_neq_struct, eq_slot s h]; rfl
theorem neqGuard_slot (x y : Operand) (C D : Array Value) (w : World) : Sem.run Try.prog (eqGuard .neq 38 x y (.agg C) (.agg D)) w = .ok () w := run_eqGuard_agg w .neq _ x y _ _ (by kernel_rfl)

theorem parseP_slots (bs : List Nat) (hb : ∀ x ∈ bs, x < 256) : ∀ s ∈ (parseP bs).2.2.2, Slot256 s := by
  unfold parseP
  split
  · intro s hs; cases hs
  · rename_i h0
    obtain ⟨_, _, _, _, _, _, q7⟩ := headN_zero (Decidable.not_not.1 h0)
    unfold tableB
    split
    · intro s hs; cases hs
    split
    · intro s hs; cases hs
    split
    · intro s hs; cases hs
    intro s hs
    obtain ⟨i, hi, rfl⟩ := List.mem_map.1 hs
    have hi := List.mem_range.1 hi
    refine ⟨?_, fun x hx => hb x (List.mem_of_mem_drop (List.mem_of_mem_take hx))⟩
    show ((bs.drop _).take 32).length = 32
    rw [List.length_take, List.length_drop]
    omega

set_option maxRecDepth 20000 in
set_option maxHeartbeats 4000000 in
theorem Same_c (A B : Option Addr) (c d id sec : Nat) (l : List Sl) (w : World) (hl : ∀ s ∈ l, Slot256 s) (h1 : RV 38 w A l.length (flatS l)) (h2 : RV 38 w B l.length (flatS l)) :
    Calls Try.prog 26 #[.agg #[.int .i64 (id : Nat), .int .i64 (sec : Nat), .slice A l.length c], .agg #[.int .i64 (id : Nat), .int .i64 (sec : Nat), .slice B l.length d]] w fun e w' => e = .returned (.bool true) ∧ Below w.heap.size w w' := by
  have hm : l.length ≤ 9223372036854775807 := h1.1
  have ne1 : ((id : Int) != (id : Int)) = false := by simp
  have ne2 : ((sec : Int) != (sec : Int)) = false := by simp
  have ne3 : ((l.length : Int) != (l.length : Int)) = false := by simp
  obtain ⟨W2, hW2⟩ : ∃ W2, (w.alloc (.cells #[.int .i64 (id : Nat), .int .i64 (sec : Nat), .slice A l.length c] 53)).alloc (.cells #[.int .i64 (id : Nat), .int .i64 (sec : Nat), .slice B l.length d] 53) = W2 := ⟨_, rfl⟩
  have hb1 : Below w.heap.size w (w.alloc (.cells #[.int .i64 (id : Nat), .int .i64 (sec : Nat), .slice A l.length c] 53)) := (Below.refl _ _).alloc (Nat.le_refl _) _
  have hg1 : (w.alloc (.cells #[.int .i64 (id : Nat), .int .i64 (sec : Nat), .slice A l.length c] 53)).heap[w.heap.size]? = some (.cells #[.int .i64 (id : Nat), .int .i64 (sec : Nat), .slice A l.length c] 53 (0, 0)) := heap_alloc_new _ _
  have hb2 : Below w.heap.size w W2 := hW2 ▸ hb1.alloc (by simp) _
  have hg2 : W2.heap[w.heap.size + 1]? = some (.cells #[.int .i64 (id : Nat), .int .i64 (sec : Nat), .slice B l.length d] 53 (0, 0)) := by
    rw [← hW2]
    have := heap_alloc_new (w.alloc (.cells #[.int .i64 (id : Nat), .int .i64 (sec : Nat), .slice A l.length c] 53)) (.cells #[.int .i64 (id : Nat), .int .i64 (sec : Nat), .slice B l.length d] 53)
    simpa using this
  have hb12 : Below (w.heap.size + 1) (w.alloc (.cells #[.int .i64 (id : Nat), .int .i64 (sec : Nat), .slice A l.length c] 53)) W2 := by
    rw [← hW2]
    exact (Below.refl _ _).alloc (by simp) _
  have hg1' : W2.heap[w.heap.size]? = some (.cells #[.int .i64 (id : Nat), .int .i64 (sec : Nat), .slice A l.length c] 53 (0, 0)) := (hb12.block w.heap.size (Nat.lt_succ_self _)).trans hg1
  have x0 : W2.cell? ⟨w.heap.size, 0, none⟩ = some (.int .i64 (id : Nat)) := by rw [cell_of_row _ _ _ _ _ _ hg1']; rfl
  have x1 : W2.cell? ⟨w.heap.size, 1, none⟩ = some (.int .i64 (sec : Nat)) := by rw [cell_of_row _ _ _ _ _ _ hg1']; rfl
  have x2 : W2.cell? ⟨w.heap.size, 2, none⟩ = some (.slice A l.length c) := by rw [cell_of_row _ _ _ _ _ _ hg1']; rfl
  have y0 : W2.cell? ⟨w.heap.size + 1, 0, none⟩ = some (.int .i64 (id : Nat)) := by rw [cell_of_row _ _ _ _ _ _ hg2]; rfl
  have y1 : W2.cell? ⟨w.heap.size + 1, 1, none⟩ = some (.int .i64 (sec : Nat)) := by rw [cell_of_row _ _ _ _ _ _ hg2]; rfl
  have y2 : W2.cell? ⟨w.heap.size + 1, 2, none⟩ = some (.slice B l.length d) := by rw [cell_of_row _ _ _ _ _ _ hg2]; rfl
  have HG1 := Lib.hid hg1'
  have HG2 := Lib.hid hg2
  have HB2 := Lib.hid hb2
  have H1 := Lib.hid h1
  have H2 := Lib.hid h2
  have HL := Lib.hid hl
  have HW2 := Lib.hid hW2
  have hl1 : w.heap.size < W2.heap.size := (Array.getElem?_eq_some_iff.1 hg1').1
  have hl2 : w.heap.size + 1 < W2.heap.size := (Array.getElem?_eq_some_iff.1 hg2).1
  clear hb1 hb2 hb12 hg1 hg1' hg2 h1 h2 hl hW2
  go_enter Try.func26, Try.ntmps26
  go_wp2_with (rw [HW2.out])
  clear x0 x1 y0 y1
  go_loopw [5] (fun vi W => ∃ i : Nat, i ≤ l.length ∧ vi = .int .i64 i ∧ Below W2.heap.size W2 W) (fun vi _ => l.length - (intOf vi).toNat)
  case atStart => exact ⟨0, by omega, rfl, Below.refl _ _⟩
  case round =>
    obtain ⟨i, hi, rfl, hB⟩ := hrel
    have HB := Lib.hid hB
    have u2 : wr.cell? ⟨w.heap.size, 2, none⟩ = some (.slice A l.length c) := by rw [cell_of_row _ _ _ _ _ _ ((hB.block w.heap.size hl1).trans HG1.out)]; rfl
    have v2 : wr.cell? ⟨w.heap.size + 1, 2, none⟩ = some (.slice B l.length d) := by rw [cell_of_row _ _ _ _ _ _ ((hB.block (w.heap.size + 1) hl2).trans HG2.out)]; rfl
    clear hB
    by_cases hlt : i < l.length
    · have hd : decide ((i : Int) < l.length) = true := decide_eq_true (by omega)
      have hbw : Below w.heap.size w wr := HB2.out.trans (HB.out.mono HB2.out.size)
      obtain ⟨g1, o1, e1, p1⟩ := (H1.out.below hbw).slot (fun s hs => (HL.out s hs).1) i hlt
      obtain ⟨g2, o2, e2, p2⟩ := (H2.out.below hbw).slot (fun s hs => (HL.out s hs).1) i hlt
      subst e1
      subst e2
      have hs := HL.out l[i] (List.getElem_mem hlt)
      have nq := neq_slot l[i] hs
      have hlen := slCells_len hs.1
      obtain ⟨Cl, hCl⟩ : ∃ Cl, slCells l[i] = Cl := ⟨_, rfl⟩
      rw [hCl] at p1 p2 nq hlen
      have hinf : (Try.prog.info? 38).map (·.size) = some Cl.length := by rw [hlen]; exact infoS
      have i0 : (0 : Int) ≤ (i : Int) := by omega
      have i1 : (i : Int) < (l.length : Int) := by omega
      have gq := fun p q => neqGuard_slot p q Cl.toArray Cl.toArray
      have HI := Lib.hid hinf
      have HP1 := Lib.hid p1
      have HP2 := Lib.hid p2
      clear hs hCl hinf p1 p2 hbw hlen
      go_wp2_with fail
      have htt : (fun w' : World => w'.cell? ⟨w.heap.size, 2, none⟩ = some (.slice (some ⟨g1, o1, none⟩) l.length c) ∧ w'.cell? ⟨w.heap.size + 1, 2, none⟩ = some (.slice (some ⟨g2, o2, none⟩) l.length d) ∧ w'.rangeAt g1 (o1 + i * 34) Cl ∧ w'.rangeAt g2 (o2 + i * 34) Cl) wr.drew := ⟨u2, v2, HP1.out, HP2.out⟩
      refine wp_region_late [1, 4, 6, 9] (fun w' => w'.cell? ⟨w.heap.size, 2, none⟩ = some (.slice (some ⟨g1, o1, none⟩) l.length c) ∧ w'.cell? ⟨w.heap.size + 1, 2, none⟩ = some (.slice (some ⟨g2, o2, none⟩) l.length d) ∧ w'.rangeAt g1 (o1 + i * 34) Cl ∧ w'.rangeAt g2 (o2 + i * 34) Cl) (by kernel_rfl) htt (fun hT => ?_)
      refine WL.take (i := 0) (v := ?_) rfl (by kernel_rfl) (by kernel_rfl) (by kernel_rfl) (by kernel_rfl) (fun _ _ _ h => h) (Or.inl ⟨by rfl, ?_⟩) (by assumption) ?_
      rotate_left 1
      · (intro w' hSw; (try (replace hSw := hSw (by decide); dsimp only at hSw)); go_split_ands; go_simp; try with_reducible rfl)
      simp only [Act.put, List.getElem_toArray, List.getElem_cons_zero, List.getElem_cons_succ, List.setIfInBounds_toArray, List.set_cons_zero, List.set_cons_succ]
      refine WL.take (i := 1) (v := ?_) rfl (by kernel_rfl) (by kernel_rfl) (by kernel_rfl) (by kernel_rfl) (fun _ _ _ h => h) (Or.inl ⟨by rfl, ?_⟩) (by assumption) ?_
      rotate_left 1
      · (intro w' hSw; (try (replace hSw := hSw (by decide); dsimp only at hSw)); go_split_ands; go_simp; try with_reducible rfl)
      simp only [Act.put, List.getElem_toArray, List.getElem_cons_zero, List.getElem_cons_succ, List.setIfInBounds_toArray, List.set_cons_zero, List.set_cons_succ]
      refine WL.take (i := 2) (v := ?_) rfl (by kernel_rfl) (by kernel_rfl) (by kernel_rfl) (by kernel_rfl) (fun _ _ _ h => h) (Or.inl ⟨by rfl, ?_⟩) (by assumption) ?_
      rotate_left 1
      · (intro w' hSw; (try (replace hSw := hSw (by decide); dsimp only at hSw)); go_split_ands; go_simp; try with_reducible rfl)
      simp only [Act.put, List.getElem_toArray, List.getElem_cons_zero, List.getElem_cons_succ, List.setIfInBounds_toArray, List.set_cons_zero, List.set_cons_succ]
      refine WL.take (i := 3) (v := ?_) rfl (by kernel_rfl) (by kernel_rfl) (by kernel_rfl) (by kernel_rfl) (fun _ _ _ h => h) (Or.inl ⟨by rfl, ?_⟩) (by assumption) ?_
      rotate_left 1
      · (intro w' hSw; (try (replace hSw := hSw (by decide); dsimp only at hSw)); go_split_ands; go_simp; try with_reducible rfl)
      simp only [Act.put, List.getElem_toArray, List.getElem_cons_zero, List.getElem_cons_succ, List.setIfInBounds_toArray, List.set_cons_zero, List.set_cons_succ]
      refine WL.take (i := 4) (v := .agg Cl.toArray) rfl (by kernel_rfl) (by kernel_rfl) (by kernel_rfl) (by kernel_rfl) (fun _ _ _ h => h) (yieldsIf_load_mid (by rfl) 38 (.tmp 37) (by rfl) g1 (o1 + i * 34) (by rfl) Cl _ (fun w' h => (h (by decide)).2.2.1) Try.underlying38 (by rfl) HI.out) hT ?_
      simp only [Act.put, List.getElem_toArray, List.getElem_cons_zero, List.getElem_cons_succ, List.setIfInBounds_toArray, List.set_cons_zero, List.set_cons_succ]
      refine WL.take (i := 5) (v := ?_) rfl (by kernel_rfl) (by kernel_rfl) (by kernel_rfl) (by kernel_rfl) (fun _ _ _ h => h) (Or.inl ⟨by rfl, ?_⟩) (by assumption) ?_
      rotate_left 1
      · (intro w' hSw; (try (replace hSw := hSw (by decide); dsimp only at hSw)); go_split_ands; go_simp; try with_reducible rfl)
      simp only [Act.put, List.getElem_toArray, List.getElem_cons_zero, List.getElem_cons_succ, List.setIfInBounds_toArray, List.set_cons_zero, List.set_cons_succ]
      refine WL.take (i := 6) (v := ?_) rfl (by kernel_rfl) (by kernel_rfl) (by kernel_rfl) (by kernel_rfl) (fun _ _ _ h => h) (Or.inl ⟨by rfl, ?_⟩) (by assumption) ?_
      rotate_left 1
      · (intro w' hSw; (try (replace hSw := hSw (by decide); dsimp only at hSw)); go_split_ands; go_simp; try with_reducible rfl)
      simp only [Act.put, List.getElem_toArray, List.getElem_cons_zero, List.getElem_cons_succ, List.setIfInBounds_toArray, List.set_cons_zero, List.set_cons_succ]
      refine WL.take (i := 7) (v := ?_) rfl (by kernel_rfl) (by kernel_rfl) (by kernel_rfl) (by kernel_rfl) (fun _ _ _ h => h) (Or.inl ⟨by rfl, ?_⟩) (by assumption) ?_
      rotate_left 1
      · (intro w' hSw; (try (replace hSw := hSw (by decide); dsimp only at hSw)); go_split_ands; go_simp; try with_reducible rfl)
      simp only [Act.put, List.getElem_toArray, List.getElem_cons_zero, List.getElem_cons_succ, List.setIfInBounds_toArray, List.set_cons_zero, List.set_cons_succ]
      refine WL.take (i := 8) (v := ?_) rfl (by kernel_rfl) (by kernel_rfl) (by kernel_rfl) (by kernel_rfl) (fun _ _ _ h => h) (Or.inl ⟨by rfl, ?_⟩) (by assumption) ?_
      rotate_left 1
      · (intro w' hSw; (try (replace hSw := hSw (by decide); dsimp only at hSw)); go_split_ands; go_simp; try with_reducible rfl)
      simp only [Act.put, List.getElem_toArray, List.getElem_cons_zero, List.getElem_cons_succ, List.setIfInBounds_toArray, List.set_cons_zero, List.set_cons_succ]
      refine WL.take (i := 9) (v := .agg Cl.toArray) rfl (by kernel_rfl) (by kernel_rfl) (by kernel_rfl) (by kernel_rfl) (fun _ _ _ h => h) (yieldsIf_load_mid (by rfl) 38 (.tmp 42) (by rfl) g2 (o2 + i * 34) (by rfl) Cl _ (fun w' h => (h (by decide)).2.2.2) Try.underlying38 (by rfl) HI.out) hT ?_
      simp only [Act.put, List.getElem_toArray, List.getElem_cons_zero, List.getElem_cons_succ, List.setIfInBounds_toArray, List.set_cons_zero, List.set_cons_succ]
      refine WL.take (i := 10) (v := ?_) rfl (by kernel_rfl) (by kernel_rfl) (by kernel_rfl) (by kernel_rfl) (fun _ _ _ h => h) (Or.inl ⟨by rfl, ?_⟩) (by assumption) ?_
      rotate_left 1
      · (intro w' hSw; (try (replace hSw := hSw (by decide); dsimp only at hSw)); go_split_ands; go_simp; try with_reducible rfl)
      simp only [Act.put, List.getElem_toArray, List.getElem_cons_zero, List.getElem_cons_succ, List.setIfInBounds_toArray, List.set_cons_zero, List.set_cons_succ]
      refine WL.done (by kernel_rfl) ?_ _
      have hbd : Below W2.heap.size W2 wr.drew := HB.out.drew
      have HBD := Lib.hid hbd
      clear hbd
      go_wp2_with fail
      exact ⟨⟨i + 1, by omega, by go_num, HBD.out⟩, by simp [intOf]; omega⟩
    · have hd : decide ((i : Int) < l.length) = false := decide_eq_false (by omega)
      go_wp2_with fail
      go_ret
      exact ⟨rfl, HB2.out.trans (HB.out.mono HB2.out.size)⟩

set_option maxRecDepth 20000 in
set_option maxHeartbeats 4000000 in
theorem PackParses_walk (A : Option Addr) (c : Nat) (bs : List Nat) (w : World) (hr : RN .u8 w A bs) (hb : ∀ x ∈ bs, x < 256) (hcap : bs.length ≤ c) :
    Calls Try.prog 7 #[.slice A bs.length c] w fun e w' => e = .returned (.bool true) ∧ Below w.heap.size w w' := by
  have h1 := Parse_c A c bs w hr hcap hb
  have h2 := fun W hR => Parse_r A c bs W hR hcap hb
  have hsl := parseP_slots bs hb
  obtain ⟨⟨E, id, sec, l⟩, hP⟩ : ∃ r, parseP bs = r := ⟨_, rfl⟩
  rw [hP] at h1 h2 hsl
  dsimp only at hsl
  have H1 := Lib.hid h1
  have H2 := Lib.hid h2
  have HSL := Lib.hid hsl
  have HR := Lib.hid hr
  clear h1 h2 hsl hP hr hb
  go_enter Try.func7, Try.ntmps7
  go_wp2_with fail
  refine H1.out.mono ?_
  rintro e w1 ⟨v, rfl, ⟨A1, c1, rfl, hr1⟩, hb1⟩
  obtain ⟨Wa, hWa⟩ : ∃ Wa, w1.alloc (.cells #[.int .i64 (id : Nat), .int .i64 (sec : Nat), .slice A1 l.length c1] 53) = Wa := ⟨_, rfl⟩
  have hba : Below w1.heap.size w1 Wa := hWa ▸ (Below.refl _ _).alloc (Nat.le_refl _) _
  have hga : Wa.heap[w1.heap.size]? = some (.cells #[.int .i64 (id : Nat), .int .i64 (sec : Nat), .slice A1 l.length c1] 53 (0, 0)) := hWa ▸ heap_alloc_new _ _
  have HWA := Lib.hid hWa
  have HGA := Lib.hid hga
  have HR1 := Lib.hid (hr1.below hba)
  have HBA := Lib.hid (hb1.trans (hba.mono hb1.size))
  have HRA := Lib.hid (HR.out.below (hb1.trans (hba.mono hb1.size)))
  have hs1 := hb1.size
  have hla : w1.heap.size < Wa.heap.size := (Array.getElem?_eq_some_iff.1 hga).1
  clear hba hga hWa hr1 hb1
  go_wp2_with (rw [HWA.out])
  refine (H2.out _ HRA.out).mono ?_
  rintro e w2 ⟨v, rfl, ⟨A2, c2, rfl, hr2⟩, hb2⟩
  have hg2 := (hb2.block w1.heap.size hla).trans HGA.out
  obtain ⟨Wb, hWb⟩ : ∃ Wb, w2.alloc (.cells #[.int .i64 (id : Nat), .int .i64 (sec : Nat), .slice A2 l.length c2] 53) = Wb := ⟨_, rfl⟩
  have hbb : Below w2.heap.size w2 Wb := hWb ▸ (Below.refl _ _).alloc (Nat.le_refl _) _
  have hgb : Wb.heap[w2.heap.size]? = some (.cells #[.int .i64 (id : Nat), .int .i64 (sec : Nat), .slice A2 l.length c2] 53 (0, 0)) := hWb ▸ heap_alloc_new _ _
  have hs2 := hb2.size
  have HWB := Lib.hid hWb
  have HGB := Lib.hid hgb
  have hg1 := (hbb.block w1.heap.size (by omega)).trans hg2
  have HG1 := Lib.hid hg1
  have HRB1 := Lib.hid ((HR1.out.below hb2).below hbb)
  have HRB2 := Lib.hid (hr2.below hbb)
  have HBB := Lib.hid (HBA.out.trans ((hb2.mono HBA.out.size).trans (hbb.mono (by omega))))
  have hlb : w2.heap.size < Wb.heap.size := (Array.getElem?_eq_some_iff.1 hgb).1
  clear hbb hgb hWb hr2 hb2 hg2 hg1 HGA HR1 HBA HRA HR
  have hee : ((E : Int) == E) = true := by simp
  have hi3 := info_bin
  have HI3 := Lib.hid hi3
  clear hi3
  go_wp2_with (rw [HWB.out])
  refine (live_c Wb).mono ?_
  rintro e w3 ⟨rfl, hb3⟩
  have hx1 := (hb3.block w1.heap.size (by omega)).trans HG1.out
  have hx2 := (hb3.block w2.heap.size hlb).trans HGB.out
  have HX1 := Lib.hid hx1
  have HX2 := Lib.hid hx2
  have hsm := Same_c A1 A2 c1 c2 id sec l w3 HSL.out (HRB1.out.below hb3) (HRB2.out.below hb3)
  have HSM := Lib.hid hsm
  have HB3 := Lib.hid (HBB.out.trans (hb3.mono HBB.out.size))
  clear hx1 hx2 hsm hb3 HG1 HGB HRB1 HRB2 HBB
  have x0 : w3.cell? ⟨w1.heap.size, 0, none⟩ = some (.int .i64 (id : Nat)) := by rw [cell_of_row _ _ _ _ _ _ HX1.out]; rfl
  have x1 : w3.cell? ⟨w1.heap.size, 1, none⟩ = some (.int .i64 (sec : Nat)) := by rw [cell_of_row _ _ _ _ _ _ HX1.out]; rfl
  have x2 : w3.cell? ⟨w1.heap.size, 2, none⟩ = some (.slice A1 l.length c1) := by rw [cell_of_row _ _ _ _ _ _ HX1.out]; rfl
  have y0 : w3.cell? ⟨w2.heap.size, 0, none⟩ = some (.int .i64 (id : Nat)) := by rw [cell_of_row _ _ _ _ _ _ HX2.out]; rfl
  have y1 : w3.cell? ⟨w2.heap.size, 1, none⟩ = some (.int .i64 (sec : Nat)) := by rw [cell_of_row _ _ _ _ _ _ HX2.out]; rfl
  have y2 : w3.cell? ⟨w2.heap.size, 2, none⟩ = some (.slice A2 l.length c2) := by rw [cell_of_row _ _ _ _ _ _ HX2.out]; rfl
  go_wp2_with fail
  refine HSM.out.mono ?_
  rintro e w4 ⟨rfl, hb4⟩
  have HB4 := Lib.hid (HB3.out.trans (hb4.mono HB3.out.size))
  clear hb4
  go_wp2_with fail
  go_ret
  exact ⟨rfl, HB4.out⟩
end Go.Proofs.Ytejmklfhcealnaa.F

/- What a container's bytes say, and what is told of four bytes that are changed: plain law. -/
set_option linter.unusedVariables false
set_option linter.unusedSimpArgs false
namespace Go.Proofs.Ytejmklfhcealnaa.F
open Go.RowKit Go.Proofs.YtejmklfhcealnaaW.PrintWords

theorem bigN_down (k n : Nat) : bigN (k + 1) n = bigN k (n / 256) ++ [n % 256] := by
  unfold bigN
  rw [List.range_succ, List.map_append]
  congr 1
  · apply List.map_congr_left
    intro t ht
    have ht := List.mem_range.1 ht
    rw [Nat.div_div_eq_div_mul, show 256 * 256 ^ (k - 1 - t) = 256 ^ (k + 1 - 1 - t) by rw [show k + 1 - 1 - t = (k - 1 - t) + 1 by omega, Nat.pow_succ, Nat.mul_comm]]
  · simp
theorem bigV_bigN : ∀ (k n : Nat), n < 256 ^ k → bigV (bigN k n) = n
  | 0, n, h => by
    have : n = 0 := by simpa using h
    subst this
    rfl
  | k + 1, n, h => by
    rw [bigN_down, bigV_snoc, bigV_bigN k (n / 256) (by rw [Nat.pow_succ] at h; omega)]
    omega
theorem hdV_mid {a b c : List Nat} {p k : Nat} (ha : a.length = p) (hb : b.length = k) : hdV (a ++ (b ++ c)) p k = bigV b := by
  unfold hdV
  rw [← ha, List.drop_left, ← hb, List.take_left]
theorem cut_mid {a b c : List Nat} {p k : Nat} (ha : a.length = p) (hb : b.length = k) : ((a ++ (b ++ c)).drop p).take k = b := by
  rw [← ha, List.drop_left, ← hb, List.take_left]
/-- What stands in the bytes, one behind the other. -/
theorem bytes_parts (id : Nat) (L : List (List Nat)) (z : List Nat) :
    bytesN id L ++ z = binN ++ (bigN 4 id ++ (bigN 2 L.length ++ (bigN 4 L.flatten.length ++ (bigN 4 (crcMore 0 (tableN L)) ++ (bigN 4 (crcMore 0 (head18 id L)) ++ (List.replicate 106 0 ++ (L.flatten ++ (tableN L ++ (List.replicate (padZ (bodyN id L).length) 0 ++ z))))))))) := by
  simp only [bytesN, bodyN, head22, head18, List.append_assoc]
theorem headN_bytes (id : Nat) (L : List (List Nat)) (z : List Nat) (hid : id < 4096) (h : Chunks L) : headN (bytesN id L ++ z) = 0 ∧
    hdV (bytesN id L ++ z) 4 4 = id ∧ hdV (bytesN id L ++ z) 8 2 = L.length ∧ hdV (bytesN id L ++ z) 10 4 = L.flatten.length ∧ hdV (bytesN id L ++ z) 14 4 = crcMore 0 (tableN L) := by
  have hf := h.flat.1
  have hc1 := crcMore_lt 0 (tableN L)
  have hc2 := crcMore_lt 0 (head18 id L)
  have hl := bytesN_len id L
  have h64 := h.1
  have hbin : binN.length = 4 := rfl
  have v4 : hdV (bytesN id L ++ z) 4 4 = id := by
    rw [bytes_parts, hdV_mid hbin (bigN_len 4 id), bigV_bigN 4 id (by omega)]
  have v8 : hdV (bytesN id L ++ z) 8 2 = L.length := by
    rw [bytes_parts, ← List.append_assoc, hdV_mid (by simp [binN, bigN_len]) (bigN_len 2 _), bigV_bigN 2 _ (by omega)]
  have v10 : hdV (bytesN id L ++ z) 10 4 = L.flatten.length := by
    rw [bytes_parts, ← List.append_assoc, ← List.append_assoc, hdV_mid (by simp [binN, bigN_len]) (bigN_len 4 _), bigV_bigN 4 _ (by omega)]
  have v14 : hdV (bytesN id L ++ z) 14 4 = crcMore 0 (tableN L) := by
    rw [bytes_parts, ← List.append_assoc, ← List.append_assoc, ← List.append_assoc, hdV_mid (by simp [binN, bigN_len]) (bigN_len 4 _), bigV_bigN 4 _ (by omega)]
  have e18 : bytesN id L ++ z = head18 id L ++ (bigN 4 (crcMore 0 (head18 id L)) ++ (List.replicate 106 0 ++ (L.flatten ++ (tableN L ++ (List.replicate (padZ (bodyN id L).length) 0 ++ z))))) := by
    simp only [bytesN, bodyN, head22, List.append_assoc]
  have v18 : hdV (bytesN id L ++ z) 18 4 = crcMore 0 (head18 id L) := by
    rw [e18, hdV_mid (head18_len id L) (bigN_len 4 _), bigV_bigN 4 _ (by omega)]
  have t18 : (bytesN id L ++ z).take 18 = head18 id L := by
    have := head18_len id L
    rw [e18, ← this, List.take_left]
  have t4 : (bytesN id L ++ z).take 4 = binN := by rw [bytes_parts, show (4 : Nat) = binN.length from rfl, List.take_left]
  have t106 : ((bytesN id L ++ z).drop 22).take 106 = List.replicate 106 0 := by
    rw [show bytesN id L ++ z = head22 id L ++ (List.replicate 106 0 ++ (L.flatten ++ (tableN L ++ (List.replicate (padZ (bodyN id L).length) 0 ++ z)))) by simp only [bytesN, bodyN, List.append_assoc]]
    exact cut_mid (head22_len id L) (by simp)
  refine ⟨?_, v4, v8, v10, v14⟩
  unfold headN
  rw [v4, v8, v10, v18, t18, t4, t106, if_neg (by rw [List.length_append, hl]; omega), if_neg (by simp), if_neg (by simp), if_neg (by decide), if_neg (by omega), if_neg (by rw [List.length_append, hl]; omega)]
theorem tableN_row (L : List (List Nat)) (i : Nat) (h : i < L.length) : tableN L = tableN (L.take i) ++ (rowN L[i] ++ tableN (L.drop (i + 1))) := by
  have e : L = L.take i ++ (L[i] :: L.drop (i + 1)) := by simp
  have h2 : tableN L = tableN (L.take i ++ (L[i] :: L.drop (i + 1))) := congrArg tableN e
  refine h2.trans ?_
  unfold tableN
  rw [List.flatMap_append, List.flatMap_cons]
theorem bytes_row (id : Nat) (L : List (List Nat)) (z : List Nat) (i : Nat) (h : i < L.length) : ((bytesN id L ++ z).drop (128 + L.flatten.length + 34 * i)).take 34 = rowN L[i] := by
  rw [show bytesN id L ++ z = (head22 id L ++ List.replicate 106 0 ++ L.flatten ++ tableN (L.take i)) ++ (rowN L[i] ++ (tableN (L.drop (i + 1)) ++ (List.replicate (padZ (bodyN id L).length) 0 ++ z))) by
    unfold bytesN
    rw [show bodyN id L = head22 id L ++ List.replicate 106 0 ++ L.flatten ++ (tableN (L.take i) ++ (rowN L[i] ++ tableN (L.drop (i + 1)))) by rw [← tableN_row L i h]; rfl]
    simp only [List.append_assoc]]
  refine cut_mid ?_ (rowN_len _)
  simp only [List.length_append, head22_len, List.length_replicate, tableN_len, List.length_take]
  omega
theorem slotB_bytes (id : Nat) (L : List (List Nat)) (z : List Nat) (hc : Chunks L) : ∀ i, i ≤ L.length → atB (bytesN id L ++ z) (128 + L.flatten.length) i = 128 + (L.take i).flatten.length
  | 0, _ => by simp [atB]
  | i + 1, h => by
    have hp := hc.2 _ (List.getElem_mem h)
    show atB _ _ i + longB _ _ i = _
    rw [slotB_bytes id L z hc i (by omega), flat_take L i h, ← rowB_long]
    unfold rowB
    rw [bytes_row id L z i h]
    have : hdV (rowN L[i]) 32 2 = L[i].length := by
      unfold rowN
      have := hdV_mid (c := []) (sumN_len L[i]) (bigN_len 2 L[i].length)
      rw [List.append_nil] at this
      rw [this, bigV_bigN 2 _ (by omega)]
    rw [this, Nat.add_assoc]
theorem longB_bytes (id : Nat) (L : List (List Nat)) (z : List Nat) (hc : Chunks L) (i : Nat) (h : i < L.length) : longB (bytesN id L ++ z) (128 + L.flatten.length) i = L[i].length := by
  have h1 := slotB_bytes id L z hc (i + 1) h
  have h2 := slotB_bytes id L z hc i (by omega)
  have h3 : atB (bytesN id L ++ z) (128 + L.flatten.length) (i + 1) = atB (bytesN id L ++ z) (128 + L.flatten.length) i + longB (bytesN id L ++ z) (128 + L.flatten.length) i := rfl
  have := flat_take L i h
  omega
theorem slotsB_bytes (id : Nat) (L : List (List Nat)) (z : List Nat) (hc : Chunks L) : slotsB (bytesN id L ++ z) (128 + L.flatten.length) L.length = slotsFrom sumN 128 L := by
  apply List.ext_getElem
  · rw [slotsB_len, slotsFrom_len]
  · intro i h1 h2
    have hi : i < L.length := by rwa [slotsB_len] at h1
    obtain ⟨a, ha, ha2⟩ := slots_get L i hi
    rw [ha, ha2]
    simp only [slotsB, List.getElem_map, List.getElem_range, slotB]
    rw [slotB_bytes id L z hc i (by omega), longB_bytes id L z hc i hi]
    congr 1
    have : ((bytesN id L ++ z).drop (128 + L.flatten.length + 34 * i)).take 32 = (rowB (bytesN id L ++ z) (128 + L.flatten.length) i).take 32 := (rowB_sum _ _ _).symm
    rw [this]
    unfold rowB
    rw [bytes_row id L z i hi]
    unfold rowN
    have hs := sumN_len L[i]
    rw [← hs, List.take_left]
theorem bytes_table (id : Nat) (L : List (List Nat)) (z : List Nat) : ((bytesN id L ++ z).drop (128 + L.flatten.length)).take (34 * L.length) = tableN L := by
  rw [show bytesN id L ++ z = (head22 id L ++ List.replicate 106 0 ++ L.flatten) ++ (tableN L ++ (List.replicate (padZ (bodyN id L).length) 0 ++ z)) by simp only [bytesN, bodyN, List.append_assoc]]
  refine cut_mid ?_ (tableN_len L)
  simp only [List.length_append, head22_len, List.length_replicate]
/-- PARSE OF BYTES HAS THE NUMBER AND THE SUMS. -/
theorem parse_bytes (id : Nat) (L : List (List Nat)) (z : List Nat) (hid : id < 4096) (hc : Chunks L) :
    parseP (bytesN id L ++ z) = (0, id, (128 + L.flatten.length + 34 * L.length + 127) / 128, slotsFrom sumN 128 L) := by
  obtain ⟨h0, v4, v8, v10, v14⟩ := headN_bytes id L z hid hc
  unfold parseP
  rw [if_neg (by rw [h0]; simp), v4, v8, v10, v14]
  unfold tableB
  rw [bytes_table, if_neg (by simp), if_neg (by
    refine fun h => h (fun i hi => ?_)
    have := hc.2 _ (List.getElem_mem hi)
    unfold okB
    rw [longB_bytes id L z hc i hi]
    exact ⟨this.1, this.2.1⟩), slotB_bytes id L z hc _ (Nat.le_refl _), if_neg (by simp), slotsB_bytes id L z hc]
theorem bytes_sectors (id : Nat) (L : List (List Nat)) : (128 + L.flatten.length + 34 * L.length + 127) / 128 * 128 = (bytesN id L).length := by
  rw [bytesN_len]
  unfold padZ
  omega
/-- Each chunk of it is what was added. -/
theorem chunk_bytes (id : Nat) (L : List (List Nat)) (hc : Chunks L) (i a : Nat) (h : i < L.length) (ha : a = 128 + (L.take i).flatten.length) : chunkA (bytesN id L) (sumN L[i]) (a : Int) (L[i].length : Int) = (0, L[i]) := by
  have hp := hc.2 _ (List.getElem_mem h)
  have hl := bytesN_len id L
  have hf := flat_take L i h
  have hle := flat_take_le L (i + 1)
  have hcut : ((bytesN id L).drop a).take L[i].length = L[i] := by
    have e : bytesN id L = (head22 id L ++ List.replicate 106 0) ++ (L.flatten ++ (tableN L ++ List.replicate (padZ (bodyN id L).length) 0)) := by simp only [bytesN, bodyN, List.append_assoc]
    have hx : (head22 id L ++ List.replicate 106 0).length = 128 := by simp [head22_len]
    have hm := flat_mid L i h
    rw [e, ha, ← List.drop_drop, ← hx, List.drop_left, List.drop_append_of_le_length (by omega), List.take_append_of_le_length (by rw [List.length_drop]; omega), hm]
  unfold chunkA
  rw [if_neg (by omega), if_neg (by omega), Int.toNat_natCast, Int.toNat_natCast, hcut, if_pos rfl]
/-- The text behind the first i changes. -/
def qAt (p bs : List Nat) (k i : Nat) : List Nat := List.zipWith (· ^^^ ·) p (mask p.length k (bs.take i))
theorem mask_get? (n k : Nat) (ds : List Nat) (h : k + ds.length ≤ n) (j : Nat) (hj : j < n) : (mask n k ds)[j]? = some (if k ≤ j ∧ j < k + ds.length then ds.getD (j - k) 0 else 0) := by
  unfold mask
  by_cases h1 : j < k
  · rw [if_neg (by omega), List.getElem?_append_left (by simp; omega), List.getElem?_append_left (by simpa using h1)]
    simp [h1]
  · by_cases h2 : j < k + ds.length
    · rw [if_pos ⟨by omega, h2⟩, List.getElem?_append_left (by simp; omega), List.getElem?_append_right (by simp; omega)]
      simp only [List.length_replicate, List.getD_eq_getElem?_getD]
      rw [List.getElem?_eq_getElem (by omega)]
      rfl
    · rw [if_neg (by omega), List.getElem?_append_right (by simp; omega), List.getElem?_eq_getElem (by simp; omega)]
      simp
theorem mask_get (n k : Nat) (ds : List Nat) (h : k + ds.length ≤ n) (j : Nat) (hj : j < (mask n k ds).length) : (mask n k ds)[j] = if k ≤ j ∧ j < k + ds.length then ds.getD (j - k) 0 else 0 := by
  have h1 := mask_get? n k ds h j (by rw [mask_len n k ds h] at hj; exact hj)
  rw [List.getElem?_eq_getElem hj] at h1
  exact Option.some.inj h1
theorem qAt_len (p bs : List Nat) (k i : Nat) (hb : i ≤ bs.length) (h : k + i ≤ p.length) : (qAt p bs k i).length = p.length := by
  unfold qAt
  rw [List.length_zipWith, mask_len _ _ _ (by rw [List.length_take]; omega)]
  simp
theorem qAt_get (p bs : List Nat) (k i : Nat) (hb : i ≤ bs.length) (h : k + i ≤ p.length) (j : Nat) (hj : j < p.length) :
    (qAt p bs k i)[j]'(by rw [qAt_len p bs k i hb h]; exact hj) = p[j] ^^^ (if k ≤ j ∧ j < k + i then bs.getD (j - k) 0 else 0) := by
  have hl : (bs.take i).length = i := by rw [List.length_take]; omega
  unfold qAt
  rw [List.getElem_zipWith, mask_get _ _ _ (by omega), hl]
  congr 1
  by_cases h1 : k ≤ j ∧ j < k + i
  · rw [if_pos h1, if_pos h1]
    simp only [List.getD_eq_getElem?_getD, List.getElem?_take]
    rw [if_pos (by omega)]
  · rw [if_neg h1, if_neg h1]
theorem qAt_zero (p bs : List Nat) (k : Nat) (h : k ≤ p.length) : qAt p bs k 0 = p := by
  apply List.ext_getElem
  · exact qAt_len p bs k 0 (by omega) (by omega)
  · intro j h1 h2
    rw [qAt_get p bs k 0 (by omega) (by omega) j h2, if_neg (by omega), Nat.xor_zero]
theorem qAt_step (p bs : List Nat) (k i : Nat) (hb : i < bs.length) (h : k + i < p.length) : (qAt p bs k i).set (k + i) (p[k + i] ^^^ bs[i]) = qAt p bs k (i + 1) := by
  apply List.ext_getElem
  · rw [List.length_set, qAt_len _ _ _ _ (by omega) (by omega), qAt_len _ _ _ _ (by omega) (by omega)]
  · intro j h1 h2
    rw [List.length_set, qAt_len _ _ _ _ (by omega) (by omega)] at h1
    rw [qAt_get p bs k (i + 1) (by omega) (by omega) j h1, List.getElem_set]
    by_cases e : k + i = j
    · subst e
      rw [if_pos rfl, if_pos (by omega), show k + i - k = i by omega, List.getD_eq_getElem?_getD, List.getElem?_eq_getElem hb]
      rfl
    · rw [if_neg e, qAt_get p bs k i (by omega) (by omega) j h1]
      by_cases h3 : k ≤ j ∧ j < k + i
      · rw [if_pos h3, if_pos (by omega)]
      · rw [if_neg h3, if_neg (by omega)]
theorem qAt_at (p bs : List Nat) (k i : Nat) (hb : i < bs.length) (h : k + i < p.length) : (qAt p bs k i)[k + i]'(by rw [qAt_len p bs k i (by omega) (by omega)]; exact h) = p[k + i] := by
  rw [qAt_get p bs k i (by omega) (by omega) _ h, if_neg (by omega), Nat.xor_zero]
theorem qAt_drop (p bs : List Nat) (k i m : Nat) (hb : i ≤ bs.length) (h : k + i ≤ m) (hm : m ≤ p.length) : (qAt p bs k i).drop m = p.drop m := by
  apply List.ext_getElem
  · rw [List.length_drop, List.length_drop, qAt_len _ _ _ _ hb (by omega)]
  · intro j h1 h2
    rw [List.length_drop] at h2
    rw [List.getElem_drop, List.getElem_drop, qAt_get p bs k i hb (by omega) _ (by omega), if_neg (by omega), Nat.xor_zero]
theorem qAt_take (p bs : List Nat) (k i m : Nat) (hb : i ≤ bs.length) (h : m ≤ k) (hm : k + i ≤ p.length) : (qAt p bs k i).take m = p.take m := by
  apply List.ext_getElem
  · rw [List.length_take, List.length_take, qAt_len _ _ _ _ hb hm]
  · intro j h1 h2
    rw [List.length_take] at h2
    rw [List.getElem_take, List.getElem_take, qAt_get p bs k i hb (by omega) _ (by omega), if_neg (by omega), Nat.xor_zero]
theorem qAt_sub (p bs : List Nat) (k i lo n : Nat) (hb : i ≤ bs.length) (h : lo ≤ k) (h2 : k + i ≤ lo + n) (hm : lo + n ≤ p.length) : ((qAt p bs k i).drop lo).take n = qAt ((p.drop lo).take n) bs (k - lo) i := by
  have hl : ((p.drop lo).take n).length = n := by rw [List.length_take, List.length_drop]; omega
  apply List.ext_getElem
  · rw [List.length_take, List.length_drop, qAt_len _ _ _ _ hb (by omega), qAt_len _ _ _ _ hb (by rw [hl]; omega), hl]
    omega
  · intro j h1 h3
    rw [qAt_len _ _ _ _ hb (by rw [hl]; omega), hl] at h3
    rw [List.getElem_take, List.getElem_drop, qAt_get p bs k i hb (by omega) _ (by omega), qAt_get _ bs (k - lo) i hb (by rw [hl]; omega) _ (by rw [hl]; omega), List.getElem_take, List.getElem_drop]
    congr 1
    by_cases e : k ≤ lo + j ∧ lo + j < k + i
    · rw [if_pos e, if_pos (by omega), show lo + j - k = j - (k - lo) by omega]
    · rw [if_neg e, if_neg (by omega)]
theorem qAt_same (p bs : List Nat) (k i : Nat) (hb : i ≤ bs.length) (h : k + i ≤ p.length) (hz : ∀ x ∈ bs.take i, x = 0) : qAt p bs k i = p := by
  apply List.ext_getElem
  · exact qAt_len p bs k i hb h
  · intro j h1 h2
    rw [qAt_get p bs k i hb h j h2]
    by_cases e : k ≤ j ∧ j < k + i
    · rw [if_pos e]
      have : bs.getD (j - k) 0 = 0 := by
        rw [List.getD_eq_getElem?_getD, List.getElem?_eq_getElem (by omega)]
        exact hz _ (by
          have : (bs.take i)[j - k]'(by rw [List.length_take]; omega) = bs[j - k] := by rw [List.getElem_take]
          rw [← this]
          exact List.getElem_mem _)
      rw [this, Nat.xor_zero]
    · rw [if_neg e, Nat.xor_zero]
theorem qAt_crc (p bs : List Nat) (k i : Nat) (hi : i ≤ 4) (hb : i ≤ bs.length) (h : k + i ≤ p.length) (hp : ∀ x ∈ p, x < 256) (hx : ∀ x ∈ bs, x < 256) (he : crcMore 0 (qAt p bs k i) = crcMore 0 p) : ∀ x ∈ bs.take i, x = 0 :=
  (apart_crc p (bs.take i) k 0 (by omega) (by rw [List.length_take]; omega) (by rw [List.length_take]; omega) hp (fun x hm => hx x (List.mem_of_mem_take hm))).1 he.symm
theorem qAt_lt (p bs : List Nat) (k i : Nat) (hb : i ≤ bs.length) (h : k + i ≤ p.length) (hp : ∀ x ∈ p, x < 256) (hx : ∀ x ∈ bs, x < 256) : ∀ x ∈ qAt p bs k i, x < 256 := by
  intro x hm
  obtain ⟨j, hj, rfl⟩ := List.getElem_of_mem hm
  rw [qAt_len p bs k i hb h] at hj
  rw [qAt_get p bs k i hb h j hj]
  refine Nat.xor_lt_two_pow (n := 8) (hp _ (List.getElem_mem hj)) ?_
  by_cases e : k ≤ j ∧ j < k + i
  · rw [if_pos e, List.getD_eq_getElem?_getD, List.getElem?_eq_getElem (by omega)]
    exact hx _ (List.getElem_mem (by omega))
  · rw [if_neg e]; decide
theorem hdV_congr {a b : List Nat} (h : a.take 128 = b.take 128) (p k : Nat) (hp : p + k ≤ 128) : hdV a p k = hdV b p k := by
  have e : ∀ c : List Nat, (c.drop p).take k = ((c.take 128).drop p).take k := fun c => by rw [List.drop_take, List.take_take, Nat.min_eq_left (by omega)]
  unfold hdV
  rw [e a, e b, h]
theorem headN_congr {a b : List Nat} (hl : a.length = b.length) (h : a.take 128 = b.take 128) : headN a = headN b := by
  have e : ∀ (c : List Nat) (n : Nat), n ≤ 128 → c.take n = (c.take 128).take n := fun c n hn => by rw [List.take_take, Nat.min_eq_left hn]
  have e2 : ∀ c : List Nat, (c.drop 22).take 106 = ((c.take 128).drop 22).take 106 := fun c => by rw [List.drop_take, List.take_take, Nat.min_eq_left (by omega)]
  unfold headN
  rw [hl, hdV_congr h 18 4 (by omega), hdV_congr h 4 4 (by omega), hdV_congr h 8 2 (by omega), hdV_congr h 10 4 (by omega), e a 4 (by omega), e a 18 (by omega), e2 a, h, ← e b 4 (by omega), ← e b 18 (by omega), ← e2 b]
theorem parseP_of_head {bs : List Nat} (h : headN bs ≠ 0) : (parseP bs).1 ≠ 0 := by
  unfold parseP
  rw [if_pos h]
  exact h
/-- FOUR BYTES OF THE HEAD'S FIRST 18, OR OF THE TABLE, that are changed, are told. -/
theorem turned_bytes (id : Nat) (L : List (List Nat)) (bs : List Nat) (k i : Nat) (hid : id < 4096) (hc : Chunks L) (hi : i ≤ 4) (hb : i ≤ bs.length) (hx : ∀ x ∈ bs, x < 256)
    (h : k + i ≤ 18 ∨ 128 + L.flatten.length ≤ k ∧ k + i ≤ 128 + L.flatten.length + 34 * L.length) : (parseP (qAt (bytesN id L) bs k i)).1 = 0 ↔ ∀ x ∈ bs.take i, x = 0 := by
  have hlen := bytesN_len id L
  have hlt := bytesN_lt id L hc.flat.2
  have hk : k + i ≤ (bytesN id L).length := by omega
  obtain ⟨h0, v4, v8, v10, v14⟩ := headN_bytes id L [] hid hc
  have hpb := parse_bytes id L [] hid hc
  have htb := bytes_table id L []
  rw [List.append_nil] at h0 v4 v8 v10 v14 hpb htb
  constructor
  · intro hq
    rcases h with h | ⟨h1, h2⟩
    · have hh : headN (qAt (bytesN id L) bs k i) = 0 := Decidable.not_not.1 (fun hn => parseP_of_head hn hq)
      obtain ⟨_, _, q3, _⟩ := headN_zero hh
      obtain ⟨_, _, p3, _⟩ := headN_zero h0
      have e1 : (qAt (bytesN id L) bs k i).take 18 = qAt ((bytesN id L).take 18) bs k i := by
        have := qAt_sub (bytesN id L) bs k i 0 18 hb (by omega) (by omega) (by omega)
        simpa using this
      have e2 : hdV (qAt (bytesN id L) bs k i) 18 4 = hdV (bytesN id L) 18 4 := by
        unfold hdV
        rw [qAt_drop _ _ _ _ _ hb h (by omega)]
      rw [e1, e2, p3] at q3
      exact qAt_crc _ bs k i hi hb (by rw [List.length_take]; omega) (fun x hm => hlt x (List.mem_of_mem_take hm)) hx q3.symm
    · have e128 : (qAt (bytesN id L) bs k i).take 128 = (bytesN id L).take 128 := qAt_take _ _ _ _ _ hb (by omega) hk
      have hh : headN (qAt (bytesN id L) bs k i) = 0 := by rw [headN_congr (qAt_len _ _ _ _ hb hk) e128, h0]
      unfold parseP at hq
      rw [if_neg (by rw [hh]; simp), hdV_congr e128 10 4 (by omega), hdV_congr e128 8 2 (by omega), hdV_congr e128 14 4 (by omega), v8, v10, v14] at hq
      unfold tableB at hq
      rw [qAt_sub _ _ _ _ _ _ hb h1 h2 (by omega), htb] at hq
      split at hq
      · simp at hq
      · rename_i hcr
        refine qAt_crc (tableN L) bs (k - (128 + L.flatten.length)) i hi hb (by rw [tableN_len]; omega) (tableN_lt L) hx (Decidable.not_not.1 hcr)
  · intro hz
    rw [qAt_same _ _ _ _ hb hk hz, hpb]
end Go.Proofs.Ytejmklfhcealnaa.F
