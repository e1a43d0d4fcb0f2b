/- Free, Most, Fork. -/
import Derived.Test.YtdfgaomlahpblaaEn
set_option linter.unusedVariables false
set_option linter.unusedSimpArgs false
namespace Go.Proofs.Ytdfgaomlahpblaa.F
open Go.RowKit Go.Proofs.YtdfgaomlahpblaaW.PrintWords

theorem foldR_sum (l : List Rn) : foldR (fun a n => a + n) l = sumN l := by
  unfold foldR sumN
  rw [List.sum_eq_foldl]
theorem foldR_most (l : List Rn) : foldR (fun a n => max a n) l = mostN l := by
  unfold foldR mostN
  rw [List.foldl_map]
theorem sum_most_le (l : List Rn) (hl : ∀ r ∈ l, r.2 ≤ 4096) : sumN l ≤ l.length * 4096 ∧ mostN l ≤ 4096 := by
  constructor
  · have := foldR_le (fun a n => a + n) (fun _ _ => Nat.le_refl _) l hl l.length (Nat.le_refl _)
    rw [List.take_length, foldR_sum] at this
    exact this
  · have := (mostN_le l 0 4097).2 ⟨by omega, fun r hr => by have := hl r hr; omega⟩
    unfold mostN
    omega
section
variable (mp : Value) (l : List Rn) (w : World)
set_option maxHeartbeats 4000000 in
theorem Free_c (htold : Calls Try.prog 16 #[mp] (w.alloc (.cells #[.int .i64 0] 3)) (RunsAns l (w.alloc (.cells #[.int .i64 0] 3)))) (hl : ∀ r ∈ l, r.2 ≤ 4096) (hn : l.length ≤ 10000) :
    Calls Try.prog 10 #[mp] w fun e w' => e = .returned (.int .i64 ((sumN l : Nat) : Int)) ∧ Below w.heap.size w w' := by
  have eg : ∀ args W, Sem.run Try.prog (callFunc 24 args) W = .ok (.enter 24 args) W := fun _ _ => by kernel_rfl
  have h := each_c mp 24 w.heap.size (fun a n => a + n) l (w.alloc (.cells #[.int .i64 0] 3)) htold (free_reck _) eg (heap_alloc_new w _) (fun _ _ => Nat.le_refl _) hl hn
  rw [foldR_sum] at h
  obtain ⟨s, hs⟩ : ∃ s, sumN l = s := ⟨_, rfl⟩
  rw [hs] at h ⊢
  have H := Lib.hid h
  clear h htold hl hn hs
  go_enter Try.func10, Try.ntmps10
  go_wp2_with fail
  refine H.out.mono ?_
  rintro e w2 ⟨rfl, hbx, hg⟩
  have c0 : w2.cell? ⟨w.heap.size, 0, none⟩ = some (.int .i64 (s : Nat)) := by rw [cell_of_row _ _ _ _ _ _ hbx]; rfl
  have hb : Below w.heap.size w w2 := ((Below.refl _ _).alloc (Nat.le_refl _) _).trans (hg.below (by simp) (fun x hx => by omega))
  have HB := Lib.hid hb
  clear hbx hg hb
  go_wp2_with fail
  go_ret
  exact ⟨rfl, HB.out⟩
set_option maxHeartbeats 4000000 in
theorem Most_c (htold : Calls Try.prog 16 #[mp] (w.alloc (.cells #[.int .i64 0] 3)) (RunsAns l (w.alloc (.cells #[.int .i64 0] 3)))) (hl : ∀ r ∈ l, r.2 ≤ 4096) (hn : l.length ≤ 10000) :
    Calls Try.prog 11 #[mp] w fun e w' => e = .returned (.int .i64 ((mostN l : Nat) : Int)) ∧ Below w.heap.size w w' := by
  have eg : ∀ args W, Sem.run Try.prog (callFunc 25 args) W = .ok (.enter 25 args) W := fun _ _ => by kernel_rfl
  have h := each_c mp 25 w.heap.size (fun a n => max a n) l (w.alloc (.cells #[.int .i64 0] 3)) htold (most_reck _) eg (heap_alloc_new w _) (fun _ _ => by omega) hl hn
  rw [foldR_most] at h
  obtain ⟨s, hs⟩ : ∃ s, mostN l = s := ⟨_, rfl⟩
  rw [hs] at h ⊢
  have H := Lib.hid h
  clear h htold hl hn hs
  go_enter Try.func11, Try.ntmps11
  go_wp2_with fail
  refine H.out.mono ?_
  rintro e w2 ⟨rfl, hbx, hg⟩
  have c0 : w2.cell? ⟨w.heap.size, 0, none⟩ = some (.int .i64 (s : Nat)) := by rw [cell_of_row _ _ _ _ _ _ hbx]; rfl
  have hb : Below w.heap.size w w2 := ((Below.refl _ _).alloc (Nat.le_refl _) _).trans (hg.below (by simp) (fun x hx => by omega))
  have HB := Lib.hid hb
  clear hbx hg hb
  go_wp2_with fail
  go_ret
  exact ⟨rfl, HB.out⟩
end
theorem Fork_nil (w : World) : Calls Try.prog 19 #[.pointer none] w fun e w' => e = .returned (.pointer none) ∧ w' = w := by
  go_enter Try.func19, Try.ntmps19
  go_wp2_with fail
  go_ret
  exact ⟨rfl, rfl⟩
set_option maxHeartbeats 4000000 in
theorem Fork_c (base b f t : Nat) (l : List Rn) (w : World) (hm : EM w base b f t l) (hl : l.length ≤ 10000) :
    Calls Try.prog 19 #[.pointer (some ⟨b, 0, none⟩)] w fun e w' => ∃ b', e = .returned (.pointer (some ⟨b', 0, none⟩)) ∧ w.heap.size ≤ b' ∧ EM w' w.heap.size b' f t l ∧ Below w.heap.size w w' := by
  obtain ⟨A, c, hme, ho, hr, hA⟩ := em_row hm
  have hb := hm.lt
  have c0 := hme.c0
  have c1 := hme.c1
  have c2 := hme.c2
  have hba : Below w.heap.size w (w.alloc (.cells #[.int .i64 (f : Nat), .int .i64 (t : Nat), .slice A l.length c] 57)) := (Below.refl _ _).alloc (Nat.le_refl _) _
  have hcl := Clone_f A c l (w.alloc (.cells #[.int .i64 (f : Nat), .int .i64 (t : Nat), .slice A l.length c] 57)) (hr.below hba) hA (by omega)
  have hm1 : EMb (w.alloc (.cells #[.int .i64 (f : Nat), .int .i64 (t : Nat), .slice A l.length c] 57)) w.heap.size f t (.slice A l.length c) := heap_alloc_new w _
  have HCL := Lib.hid hcl
  have HM1 := Lib.hid hm1
  have HBA := Lib.hid hba
  have HA := Lib.hid hA
  have hne : ¬ (w.heap.size = b) := by omega
  clear hcl hme ho hr hA hm hm1 hba
  go_enter Try.func19, Try.ntmps19
  go_wp2_with fail
  refine HCL.out.mono ?_
  rintro e w2 ⟨v2, rfl, ho2, hb2, hnn⟩
  have hm2 : EMb w2 w.heap.size f t (.slice A l.length c) := HM1.out.move (hb2.block _ (by simp))
  have f2 := hm2.fr 2
  have c22 := hm2.c2
  obtain ⟨A2, k2, e2, _, _⟩ := ho2.reads
  subst e2
  have hem : EM (w2.setCell ⟨w.heap.size, 2, none⟩ (.slice A2 l.length k2)) w.heap.size w.heap.size f t l := by
    refine ⟨_, hm2.set _, (ho2.lower (by simp)).move (fun k hk => heap_setCell_other _ _ _ _ (fun e => ?_)), fun h => ?_⟩
    · have := (ho2.typed k hk).1
      simp at this e
      omega
    · exact hnn h
  have hbf : Below w.heap.size w (w2.setCell ⟨w.heap.size, 2, none⟩ (.slice A2 l.length k2)) := (HBA.out.trans (hb2.mono (by simp))).setCell (p := ⟨w.heap.size, 2, none⟩) (Nat.le_refl _) _
  have HEM := Lib.hid hem
  have HBF := Lib.hid hbf
  clear hm2 ho2 hb2 hem hbf hnn
  go_wp2_with fail
  go_ret
  exact ⟨_, rfl, Nat.le_refl _, HEM.out, HBF.out⟩
end Go.Proofs.Ytdfgaomlahpblaa.F
