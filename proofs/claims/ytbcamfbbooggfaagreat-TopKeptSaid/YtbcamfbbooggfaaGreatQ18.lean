/- Part 18 of the proof: V3, V4. -/
import Derived.Test.YtbcamfbbooggfaaGreatQ17
import Derived.Test.YtbcamfbbooggfaaGreatQ09
import Derived.BigQuiet

section
/- A recipe is made. -/
set_option linter.unusedVariables false
set_option linter.unusedSimpArgs false
namespace Go.Proofs.YtbcamfbbooggfaaGreat.F
open Go.RowKit Go.Proofs.YtbcamfbbooggfaaGreatW.PrintWords
attribute [local go_sem ↓] Go.wp_at_zero Go.wp_at_succ

theorem infoRf3 : (Tryz.prog.info? 64).map (fun i => (i.zero, i.size, i.bytes)) = some (some (.agg zeroRf), 35, 56) := by kernel_rfl
theorem qnil_ref : ∀ (w : World) (a : Option Addr) (n c : Nat), Sem.run Tryz.prog (binOp BinOp.eql 47 (.slice a n c) (.slice none 0 0)) w = Result.ok (.bool a.isNone) w := fun w a n c => Go.Lib.run_eql_slice_nil w 47 64 a n c 0 0 Tryz.underlying47
set_option maxRecDepth 20000 in
set_option maxHeartbeats 4000000 in
theorem CloneR_c (A : Option Addr) (c n : Nat) (F : List Value) (w : World) (hr : RV 64 w A n F) (hF : F.length = n * 35) (hone : ∀ u ∈ F, u.oneCell' = true) (hn : n ≤ 100000) :
    Calls Tryz.prog 47 #[.slice A n c] w fun e w' => ∃ v, e = .returned v ∧ w'.ownsRow w.heap.size 64 35 v n F ∧ Below w.heap.size w w' := by
  have hmx := hr.1
  have qN := qnil_ref
  cases A with
  | none =>
    have h0 : n = 0 := by
      rcases Nat.eq_zero_or_pos n with h | h
      · exact h
      · obtain ⟨g, o, e, _⟩ := hr.2 h
        cases e
    subst h0
    have hF0 : F = [] := List.eq_nil_of_length_eq_zero (by simpa using hF)
    subst hF0
    go_enter Tryz.func47, Tryz.ntmps47
    go_wp2_with fail
    go_ret
    exact ⟨.slice none 0 0, rfl, own_nilV _ _ _ _, Below.refl _ _⟩
  | some ad =>
    obtain ⟨i0, hi0, hz0, hz1, hz2⟩ := info_parts infoRf3
    have hbE : Below w.heap.size w (w.alloc (.cells #[] 64)) := (Below.refl _ _).alloc (Nat.le_refl _) _
    have hE : (w.alloc (.cells #[] 64)).ownsRow w.heap.size 64 35 (.slice (some ⟨w.heap.size, 0, none⟩) 0 0) 0 [] := by
      have h := World.ownsRow_lit (base := w.heap.size) (e := 64) (size := 35) w #[] 0 (by simp) (by simp [maxLen]) (by simp)
      simpa using h
    have hsrc : ∀ j v, F[j]? = some v → (w.alloc (.cells #[] 64)).cell? (ad.add j) = some v := fun j v hv => by
      have hp : 0 < n := by
        rcases Nat.eq_zero_or_pos n with h | h
        · subst h
          have h0 : F = [] := List.eq_nil_of_length_eq_zero (by simpa using hF)
          rw [h0] at hv
          simp at hv
        · exact h
      obtain ⟨g, o, e, ⟨cs, x, hg⟩, hc⟩ := hr.2 hp
      cases e
      rw [Addr.add_lit, hbE.cell (p := ⟨g, o + j, none⟩) (Array.getElem?_eq_some_iff.1 hg).1]
      exact hc j v hv
    have hzz : zeroRf.size = 35 := zeroRf_size
    have HZ := Lib.hid hzz
    have HE := Lib.hid hE
    have HBE := Lib.hid hbE
    have HSRC := Lib.hid hsrc
    have HLEN := Lib.hid hF
    have HONE := Lib.hid hone
    clear hE hbE hsrc hF hone hr hzz
    go_enter Tryz.func47, Tryz.ntmps47
    go_wp2_with (at_builtin; refine wpList_append_own_at (w.alloc (.cells #[] 64)) rfl (.tmp 5) (.tmp 6) 47 rfl w.heap.size 64 i0 (.agg zeroRf) 35 56 Tryz.underlying47 hi0 hz0 hz1 hz2 HZ.out (by decide) (.slice (some ⟨w.heap.size, 0, none⟩) 0 0) 0 [] rfl HE.out ad n c F rfl HLEN.out HSRC.out HONE.out (by simp only [maxLen]; omega) (by omega) (by simp) ?_; intro v3 w3 ho3 hg3 _ _; rw [Nat.zero_add, List.nil_append] at ho3)
    have hb3 : Below w.heap.size w w3 := HBE.out.grown hg3 (by simp) (fun j ej => own_base HE.out j ej)
    have HOR := Lib.hid ho3
    have HB3 := Lib.hid hb3
    clear hb3 ho3 hg3
    go_wp2_with fail
    go_ret
    exact ⟨_, rfl, HOR.out, HB3.out⟩
set_option maxRecDepth 20000 in
theorem slice_ref (g o n c i : Nat) (hi : i < n) (hc : n ≤ c) (W : World) : (Instr.slice 47 (.slice (some ⟨g, o, none⟩) n c) (some (.int .i64 (i : Nat))) (some (.int .i64 ((i : Int) + 1))) none).run Tryz.prog W = .ok (.slice (some ⟨g, o + i * 35, none⟩) 1 (c - i)) W := by
  have hu : Tryz.prog.underlying 47 = some (.slice (Tryz.prog.elem 47)) := Tryz.underlying47
  obtain ⟨i0, hi0, hs0⟩ : ∃ i0, Tryz.prog.info? (Tryz.prog.elem 47) = some i0 ∧ i0.size = 35 := by
    have := infoRf
    obtain ⟨i0, h1, h2⟩ := Option.map_eq_some_iff.1 this
    exact ⟨i0, h1, h2⟩
  have e1 : ((i : Int) + 1).toNat = i + 1 := by omega
  rw [run_slice_lh W 47 (some ⟨g, o, none⟩) n c hu .i64 .i64 (i : Int) ((i : Int) + 1) (by omega) (by omega) (by omega), e1, Int.toNat_natCast]
  have hci : ¬ c = i := by omega
  simp [sizeOf, typeInfo, hi0, hs0, sliced, Result.andThen, hci, Addr.add]
theorem RV.single {W : World} {l : List Rf} {g o : Nat} (h : RV 64 W (some ⟨g, o, none⟩) l.length (flatRf l)) (hs : ∀ r ∈ l, r.1.length = 32) (i : Nat) (hi : i < l.length) : RV 64 W (some ⟨g, o + i * 35, none⟩) 1 (flatRf [l[i]]) := by
  obtain ⟨g2, o2, e, hr⟩ := h.ref hs i hi
  obtain ⟨g3, o3, e3, hb, _⟩ := h.2 (by omega)
  simp only [Option.some.injEq, Addr.mk.injEq, and_true] at e e3
  obtain ⟨rfl, rfl⟩ := e
  obtain ⟨rfl, rfl⟩ := e3
  refine ⟨by omega, fun _ => ⟨g, o + i * 35, rfl, hb, fun j u hu => ?_⟩⟩
  refine hr j u ?_
  simpa [flatRf] using hu
set_option maxRecDepth 20000 in
set_option maxHeartbeats 4000000 in
theorem RCheck_c (A : Option Addr) (c : Nat) (l : List Rf) (w : World) (hk : ∀ r ∈ l, RfOk r) (hl : l.length ≤ 256) (hc : l.length ≤ c) (hr : RV 64 w A l.length (flatRf l)) :
    Calls Tryz.prog 46 #[.slice A l.length c] w fun e w' => e = .returned (.int .i64 0) ∧ Below w.heap.size w w' := by
  have HR := Lib.hid hr
  have HK := Lib.hid hk
  have d0 : decide ((256 : Int) < (l.length : Int)) = false := decide_eq_false (by omega)
  have d0' : decide (256 < l.length) = false := decide_eq_false (by omega)
  clear hr hk
  go_enter Tryz.func46, Tryz.ntmps46
  go_wp2_with fail
  go_loopw [11] (fun vi W => ∃ i : Nat, i ≤ l.length ∧ vi = .int .i64 (i : Nat) ∧ Below w.heap.size w W) (fun vi _ => l.length - (intOf vi).toNat)
  case atStart => exact ⟨0, by omega, rfl, Below.refl _ _⟩
  case round =>
    obtain ⟨i, hi, rfl, hB⟩ := hrel
    have HB := Lib.hid hB
    clear hB
    by_cases hlt : i < l.length
    · have d1 : decide ((i : Int) < (l.length : Int)) = true := decide_eq_true (by omega)
      have hra := HR.out.below HB.out
      obtain ⟨g, o, eA, _⟩ := hra.2 (by omega)
      subst eA
      have hone := hra.single (fun r hr => (HK.out r hr).1) i hlt
      have hsl := slice_ref g o l.length c i hlt hc
      have hp := Put_c l[i] (HK.out _ (List.getElem_mem hlt)) _ (c - i) wr hone
      have HP := Lib.hid hp
      have w1 : IntKind.i64.wrap ((i : Int) + 1) = (i : Int) + 1 := by rw [IntKind.wrap_i64]; omega
      clear hra hone hp
      go_wp2_with fail
      refine HP.out.mono ?_
      rintro e w2 ⟨v2, rfl, hb2⟩
      have HB2 := Lib.hid (HB.out.trans (hb2.mono HB.out.size))
      clear hb2
      go_wp2_with fail
      exact ⟨⟨i + 1, by omega, by go_num, HB2.out⟩, by simp [intOf]; omega⟩
    · have d1 : decide ((i : Int) < (l.length : Int)) = false := decide_eq_false (by omega)
      go_wp2_with fail
      go_ret
      exact ⟨rfl, HB.out⟩
/-- How many bytes the first j refs have. -/
def upto (l : List Rf) (j : Nat) : Nat := ((l.take j).map (·.2.1)).sum
theorem upto_succ (l : List Rf) (j : Nat) (h : j < l.length) : upto l (j + 1) = upto l j + l[j].2.1 := by
  unfold upto
  rw [List.take_succ_eq_append_getElem h]
  simp only [List.map_append, List.sum_append, List.map_cons, List.map_nil, List.sum_cons, List.sum_nil, Nat.add_zero]
theorem upto_le (l : List Rf) (hk : ∀ r ∈ l, RfOk r) : ∀ j, upto l j ≤ 512 * j := by
  intro j
  induction j with
  | zero => simp [upto]
  | succ j ih =>
    rcases Nat.lt_or_ge j l.length with h | h
    · rw [upto_succ l j h]
      have := (hk _ (List.getElem_mem h)).2.2.2.1
      omega
    · have : upto l (j + 1) = upto l j := by unfold upto; rw [List.take_of_length_le (by omega), List.take_of_length_le (by omega)]
      omega
def begins (l : List Rf) (n : Nat) : List Nat := (List.range (n + 1)).map (upto l)
theorem begins_len (l : List Rf) (n : Nat) : (begins l n).length = n + 1 := by simp [begins]
theorem begins_succ (l : List Rf) (n : Nat) : begins l (n + 1) = begins l n ++ [upto l (n + 1)] := by simp [begins, List.range_succ]
theorem begins_get (l : List Rf) (n i : Nat) (h : i < (begins l n).length) : (begins l n)[i] = upto l i := by simp [begins]
theorem info_i64 : (Tryz.prog.info? 3).map (fun i => (i.zero, i.size, i.bytes)) = some (some (.int .i64 0), 1, 8) := by kernel_rfl
/-- A recipe of refs l. -/
def RC (W : World) (b : Nat) (l : List Rf) : Prop :=
  ∃ A c A2 c2, W.heap[b]? = some (.cells #[.slice A l.length c, .slice A2 (l.length + 1) c2] 132 (0, 0)) ∧ RV 64 W A l.length (flatRf l) ∧ RV 3 W A2 (l.length + 1) ((begins l l.length).map (encN .i64))
theorem RC.below {W W' : World} {b : Nat} {l : List Rf} (h : RC W b l) (hb : Below W.heap.size W W') : RC W' b l := by
  obtain ⟨A, c, A2, c2, h1, h2, h3⟩ := h
  exact ⟨A, c, A2, c2, (hb.block b (Array.getElem?_eq_some_iff.1 h1).1).trans h1, h2.below hb, h3.below hb⟩
theorem RC.lt {W : World} {b : Nat} {l : List Rf} (h : RC W b l) : b < W.heap.size := by obtain ⟨_, _, _, _, h1, _⟩ := h; exact (Array.getElem?_eq_some_iff.1 h1).1
set_option maxRecDepth 20000 in
set_option maxHeartbeats 8000000 in
theorem RNew_c (A : Option Addr) (c : Nat) (l : List Rf) (w : World) (hk : ∀ r ∈ l, RfOk r) (hl : l.length ≤ 256) (hc : l.length ≤ c) (hr : RV 64 w A l.length (flatRf l)) :
    Calls Tryz.prog 19 #[.slice A l.length c] w fun e w' => ∃ b, e = .returned (.tuple #[.pointer (some ⟨b, 0, none⟩), .int .i64 0]) ∧ RC w' b l ∧ w.heap.size ≤ b ∧ Below w.heap.size w w' := by
  have hch := RCheck_c A c l w hk hl hc hr
  have hF : (flatRf l).length = l.length * 35 := by
    have : ∀ l : List Rf, (∀ r ∈ l, RfOk r) → (flatRf l).length = l.length * 35 := by
      intro l
      induction l with
      | nil => intro _; rfl
      | cons r l ih =>
        intro h
        have h1 := rfCells_len (h r (by simp)).1
        have h2 := ih (fun q hq => h q (by simp [hq]))
        rw [show flatRf (r :: l) = rfCells r ++ flatRf l from rfl, List.length_append, h1, h2, List.length_cons]
        omega
    exact this l hk
  have hF1 : ∀ u ∈ flatRf l, u.oneCell' = true := fun u hu => by
    obtain ⟨r, _, h⟩ := List.mem_flatMap.1 hu
    exact rfCells_one r u h
  have HCH := Lib.hid hch
  have HR := Lib.hid hr
  have HK := Lib.hid hk
  have HF := Lib.hid hF
  have HF1 := Lib.hid hF1
  have hcl := fun W hR => CloneR_c A c l.length (flatRf l) W hR hF hF1 (by omega)
  have HCL := Lib.hid hcl
  clear hch hr hk hF hF1 hcl
  go_enter Tryz.func19, Tryz.ntmps19
  go_wp2_with fail
  refine HCH.out.mono ?_
  rintro e w1 ⟨rfl, hb1⟩
  have HB1 := Lib.hid hb1
  have HR1 := Lib.hid (HR.out.below hb1)
  have hs1 := hb1.size
  clear hb1 HR HCH
  go_wp2_with fail
  refine (HCL.out w1 HR1.out).mono ?_
  rintro e w2 ⟨v2, rfl, ho2, hb2⟩
  obtain ⟨A2, c2, e2, hc2, hr2, _⟩ := RV.ofOwn ho2
  subst e2
  have HR2 := Lib.hid hr2
  have HB2 := Lib.hid (HB1.out.trans (hb2.mono hs1))
  have HR1' := Lib.hid (HR1.out.below hb2)
  have hs2 := hb2.size
  clear ho2 hr2 hb2
  go_wp2_with fail
  have hb3 : Below w2.heap.size w2 ((w2.alloc (Obj.cells #[Value.int IntKind.i64 0] 3)).alloc (Obj.cells #[Value.slice A2 l.length c2, Value.slice (some ⟨w2.heap.size, 0, none⟩) 1 1] 132)) := ((Below.refl _ _).alloc (Nat.le_refl _) _).alloc (by simp) _
  have hg3 : ((w2.alloc (Obj.cells #[Value.int IntKind.i64 0] 3)).alloc (Obj.cells #[Value.slice A2 l.length c2, Value.slice (some ⟨w2.heap.size, 0, none⟩) 1 1] 132)).heap[w2.heap.size + 1]? = some (.cells #[Value.slice A2 l.length c2, Value.slice (some ⟨w2.heap.size, 0, none⟩) 1 1] 132 (0, 0)) := by
    have := heap_alloc_new (w2.alloc (Obj.cells #[Value.int IntKind.i64 0] 3)) (Obj.cells #[Value.slice A2 l.length c2, Value.slice (some ⟨w2.heap.size, 0, none⟩) 1 1] 132)
    simpa using this
  have ho3 : OwnN .i64 3 (w2.alloc (Obj.cells #[Value.int IntKind.i64 0] 3)) w2.heap.size (.slice (some ⟨w2.heap.size, 0, none⟩) 1 1) (begins l 0) := by
    have := own_lit_of (enc := encN .i64) w2 w2.heap.size 3 [0] (by simp) (by simp)
    simpa [encs, encN, OwnN, begins, upto] using this
  have ho4 := pw_own_below ho3 ((Below.refl _ _).alloc (Nat.le_refl _) (Obj.cells #[Value.slice A2 l.length c2, Value.slice (some ⟨w2.heap.size, 0, none⟩) 1 1] 132))
  generalize (w2.alloc (Obj.cells #[Value.int IntKind.i64 0] 3)).alloc (Obj.cells #[Value.slice A2 l.length c2, Value.slice (some ⟨w2.heap.size, 0, none⟩) 1 1] 132) = w3 at hb3 hg3 ho4 ⊢
  obtain ⟨bR, hbR⟩ : ∃ bR, w2.heap.size + 1 = bR := ⟨_, rfl⟩
  rw [hbR] at hg3 ⊢
  have HG3 := Lib.hid hg3
  have HO4 := Lib.hid ho4
  have HB3 := Lib.hid hb3
  clear hg3 ho3 ho4 hb3
  go_loopw [20] (fun vi W => ∃ (i : Nat) (vB : Value), i ≤ l.length ∧ vi = .int .i64 (i : Nat) ∧ OwnN .i64 3 W w2.heap.size vB (begins l i) ∧ W.heap[bR]? = some (.cells #[.slice A2 l.length c2, vB] 132 (0, 0)) ∧ Below w2.heap.size w2 W) (fun vi _ => l.length - (intOf vi).toNat)
  case atStart => exact ⟨0, _, by omega, rfl, HO4.out, HG3.out, HB3.out⟩
  case round =>
    obtain ⟨i, vB, hi, rfl, ho, hg, hB⟩ := hrel
    have HO := Lib.hid ho
    have HG := Lib.hid hg
    have HB := Lib.hid hB
    have hs := hB.size
    have hlR : bR < wr.heap.size := (Array.getElem?_eq_some_iff.1 hg).1
    clear ho hg hB
    by_cases hlt : i < l.length
    · have d1 : decide ((i : Int) < (l.length : Int)) = true := decide_eq_true (by omega)
      have hra := HR1'.out.below HB.out
      obtain ⟨g, o, eA, hrange⟩ := hra.ref (fun r hr => (HK.out r hr).1) i hlt
      have hle := upto_le l HK.out i
      have hus := upto_succ l i hlt
      have hri := HK.out _ (List.getElem_mem hlt)
      subst eA
      obtain ⟨r, hr⟩ : ∃ r, l[i] = r := ⟨_, rfl⟩
      rw [hr] at hrange hus hri
      obtain ⟨Cl, hCl⟩ : ∃ Cl, rfCells r = Cl := ⟨_, rfl⟩
      have hlen := rfCells_len hri.1
      have hone := rfCells_one r
      have e0 := rfCells_hi hri.1 0
      rw [hCl] at hrange hlen hone e0
      have hinf : (Tryz.prog.info? 64).map (·.size) = some Cl.length := by rw [hlen]; exact infoRf
      have hinf2 : (Tryz.prog.info? 64).map (·.size) = some Cl.toArray.size := by rw [List.size_toArray, hlen]; exact infoRf
      have hzs : zeroRf.size = Cl.toArray.size := zeroRf_size.trans (by rw [List.size_toArray, hlen])
      have hblen := hri.2.2.2.1
      obtain ⟨b, hb⟩ : ∃ b, r.2.1 = b := ⟨_, rfl⟩
      obtain ⟨a, ha⟩ : ∃ a, upto l i = a := ⟨_, rfl⟩
      rw [hb] at e0 hus hblen
      rw [ha] at hle hus
      have HRG := Lib.hid hrange
      have HI := Lib.hid hinf
      have HI2 := Lib.hid hinf2
      have HC1 := Lib.hid (Go.all_oneCell_toArray hone)
      have HZS := Lib.hid hzs
      have HE0 := Lib.hid e0
      have HUS := Lib.hid hus
      have HA := Lib.hid ha
      have hz := zeroRf_eq
      have hgz : (wr.alloc (.cells zeroRf 64)).heap[wr.heap.size]? = some (.cells zeroRf 64 (0, 0)) := heap_alloc_new _ _
      have HGZ := Lib.hid hgz
      clear hra hrange hCl hlen hone hinf hinf2 hzs hgz e0 hus hri ha hb hr
      go_wp2_with (first
        | (refine wpList_load_mid rfl 64 (.tmp 23) rfl g (o + i * 35) rfl Cl _ HRG.out Tryz.underlying64 (by rfl) HI.out ?_)
        | (refine wpList_store_row rfl 64 (.tmp 7) (.tmp 24) rfl wr.heap.size rfl Cl.toArray zeroRf rfl 64 HGZ.out HI2.out HZS.out HC1.out ?_))
      have hgs := setRow_heap _ _ _ Cl.toArray _ _ HGZ.out
      have hbs : Below wr.heap.size wr ((wr.alloc (.cells zeroRf 64)).setRow wr.heap.size Cl.toArray) := below_setRow ((Below.refl _ _).alloc (Nat.le_refl _) _) (Nat.le_refl _) _
      generalize (wr.alloc (.cells zeroRf 64)).setRow wr.heap.size Cl.toArray = ws at hgs hbs ⊢
      have hO1 := pw_own_below HO.out hbs
      have hG1 := (hbs.block bR hlR).trans HG.out
      have hB1 := HB.out.trans (hbs.mono hs)
      obtain ⟨A5, c5, e5, hc5, hr5, _⟩ := RV.ofOwn (show ws.ownsRow w2.heap.size 3 1 vB (begins l i).length ((begins l i).map (encN .i64)) from hO1)
      subst e5
      obtain ⟨g5, o5, eA5, hc5'⟩ := hr5.intAt i (by rw [begins_len]; omega)
      subst eA5
      rw [begins_get, HA.out] at hc5'
      rw [begins_len] at hG1 hc5
      have kx : ws.cell? ⟨wr.heap.size, 32, none⟩ = some (.int .i64 (b : Nat)) := by rw [cell_of_row _ _ _ _ _ _ hgs]; exact HE0.out
      have kb : ws.cell? ⟨bR, 1, none⟩ = some (.slice (some ⟨g5, o5, none⟩) (i + 1) c5) := by rw [cell_of_row _ _ _ _ _ _ hG1]; rfl
      have hbw : Below w2.heap.size w2 ws := hB1
      have hs1 := hbw.size
      have HO1 := Lib.hid (show OwnN .i64 3 ws w2.heap.size (.slice (some ⟨g5, o5, none⟩) (i + 1) c5) (begins l i) from by rw [← begins_len l i]; exact hO1)
      have HG1 := Lib.hid hG1
      have HB1 := Lib.hid hbw
      have hlR1 : bR < ws.heap.size := (Array.getElem?_eq_some_iff.1 hG1).1
      obtain ⟨gx, hgx⟩ : ∃ gx, wr.heap.size = gx := ⟨_, rfl⟩
      rw [hgx] at hgs kx ⊢
      have hlx : gx < ws.heap.size := (Array.getElem?_eq_some_iff.1 hgs).1
      have hl5 : g5 < ws.heap.size := block_lt_of_cell hc5'
      have i0 : (0 : Int) ≤ (i : Int) := by omega
      have i1 : (i : Int) < (i : Int) + 1 := by omega
      have wab : IntKind.i64.wrap ((a : Int) + b) = (a : Int) + b := by rw [IntKind.wrap_i64]; omega
      clear hO1 hG1 hB1 hr5 hbw hbs hgs hgx HO HG HB HRG HI HI2 HC1 HZS HE0 HGZ hz
      go_wp2_with fail
      refine wp_region_late [4, 8, 11, 13] (fun w' => w'.cell? ⟨bR, 1, none⟩ = some (.slice (some ⟨g5, o5, none⟩) (i + 1) c5) ∧ w'.cell? ⟨g5, o5 + i, none⟩ = some (.int .i64 (a : Nat)) ∧ w'.cell? ⟨gx, 32, none⟩ = some (.int .i64 (b : Nat))) (by kernel_rfl) ⟨kb, hc5', kx⟩ (fun hT => ?_)
      refine WL.take (i := 0) (v := ?_) rfl (by kernel_rfl) (by kernel_rfl) (by kernel_rfl) (by kernel_rfl) (fun _ _ _ h => h) (Or.inl ⟨by rfl, ?_⟩) (by assumption) ?_
      rotate_left 1
      · (intro w' hSw; (try (replace hSw := hSw (by decide); dsimp only at hSw)); go_split_ands; go_simp; try with_reducible rfl)
      simp only [Act.put, List.getElem_toArray, List.getElem_cons_zero, List.getElem_cons_succ, List.setIfInBounds_toArray, List.set_cons_zero, List.set_cons_succ]
      refine WL.take (i := 1) (v := ?_) rfl (by kernel_rfl) (by kernel_rfl) (by kernel_rfl) (by kernel_rfl) (fun _ _ _ h => h) (Or.inl ⟨by rfl, ?_⟩) (by assumption) ?_
      rotate_left 1
      · (intro w' hSw; (try (replace hSw := hSw (by decide); dsimp only at hSw)); go_split_ands; go_simp; try with_reducible rfl)
      simp only [Act.put, List.getElem_toArray, List.getElem_cons_zero, List.getElem_cons_succ, List.setIfInBounds_toArray, List.set_cons_zero, List.set_cons_succ]
      refine WL.take (i := 2) (v := ?_) rfl (by kernel_rfl) (by kernel_rfl) (by kernel_rfl) (by kernel_rfl) (fun _ _ _ h => h) (Or.inl ⟨by rfl, ?_⟩) (by assumption) ?_
      rotate_left 1
      · (intro w' hSw; (try (replace hSw := hSw (by decide); dsimp only at hSw)); go_split_ands; go_simp; try with_reducible rfl)
      simp only [Act.put, List.getElem_toArray, List.getElem_cons_zero, List.getElem_cons_succ, List.setIfInBounds_toArray, List.set_cons_zero, List.set_cons_succ]
      refine WL.take (i := 3) (v := ?_) rfl (by kernel_rfl) (by kernel_rfl) (by kernel_rfl) (by kernel_rfl) (fun _ _ _ h => h) (Or.inl ⟨by rfl, ?_⟩) (by assumption) ?_
      rotate_left 1
      · (intro w' hSw; (try (replace hSw := hSw (by decide); dsimp only at hSw)); go_split_ands; go_simp; try with_reducible rfl)
      simp only [Act.put, List.getElem_toArray, List.getElem_cons_zero, List.getElem_cons_succ, List.setIfInBounds_toArray, List.set_cons_zero, List.set_cons_succ]
      refine WL.take (i := 4) (v := ?_) rfl (by kernel_rfl) (by kernel_rfl) (by kernel_rfl) (by kernel_rfl) (fun _ _ _ h => h) (Or.inl ⟨by rfl, ?_⟩) (by assumption) ?_
      rotate_left 1
      · (intro w' hSw; (try (replace hSw := hSw (by decide); dsimp only at hSw)); go_split_ands; go_simp; try with_reducible rfl)
      simp only [Act.put, List.getElem_toArray, List.getElem_cons_zero, List.getElem_cons_succ, List.setIfInBounds_toArray, List.set_cons_zero, List.set_cons_succ]
      refine WL.take (i := 5) (v := ?_) rfl (by kernel_rfl) (by kernel_rfl) (by kernel_rfl) (by kernel_rfl) (fun _ _ _ h => h) (Or.inl ⟨by rfl, ?_⟩) (by assumption) ?_
      rotate_left 1
      · (intro w' hSw; (try (replace hSw := hSw (by decide); dsimp only at hSw)); go_split_ands; go_simp; try with_reducible rfl)
      simp only [Act.put, List.getElem_toArray, List.getElem_cons_zero, List.getElem_cons_succ, List.setIfInBounds_toArray, List.set_cons_zero, List.set_cons_succ]
      refine WL.take (i := 6) (v := ?_) rfl (by kernel_rfl) (by kernel_rfl) (by kernel_rfl) (by kernel_rfl) (fun _ _ _ h => h) (Or.inl ⟨by rfl, ?_⟩) (by assumption) ?_
      rotate_left 1
      · (intro w' hSw; (try (replace hSw := hSw (by decide); dsimp only at hSw)); go_split_ands; go_simp; try with_reducible rfl)
      simp only [Act.put, List.getElem_toArray, List.getElem_cons_zero, List.getElem_cons_succ, List.setIfInBounds_toArray, List.set_cons_zero, List.set_cons_succ]
      refine WL.take (i := 7) (v := ?_) rfl (by kernel_rfl) (by kernel_rfl) (by kernel_rfl) (by kernel_rfl) (fun _ _ _ h => h) (Or.inl ⟨by rfl, ?_⟩) (by assumption) ?_
      rotate_left 1
      · (intro w' hSw; (try (replace hSw := hSw (by decide); dsimp only at hSw)); go_split_ands; go_simp; try with_reducible rfl)
      simp only [Act.put, List.getElem_toArray, List.getElem_cons_zero, List.getElem_cons_succ, List.setIfInBounds_toArray, List.set_cons_zero, List.set_cons_succ]
      refine WL.take (i := 8) (v := ?_) rfl (by kernel_rfl) (by kernel_rfl) (by kernel_rfl) (by kernel_rfl) (fun _ _ _ h => h) (Or.inl ⟨by rfl, ?_⟩) (by assumption) ?_
      rotate_left 1
      · (intro w' hSw; (try (replace hSw := hSw (by decide); dsimp only at hSw)); go_split_ands; go_simp; try with_reducible rfl)
      simp only [Act.put, List.getElem_toArray, List.getElem_cons_zero, List.getElem_cons_succ, List.setIfInBounds_toArray, List.set_cons_zero, List.set_cons_succ]
      refine WL.take (i := 9) (v := ?_) rfl (by kernel_rfl) (by kernel_rfl) (by kernel_rfl) (by kernel_rfl) (fun _ _ _ h => h) (Or.inl ⟨by rfl, ?_⟩) (by assumption) ?_
      rotate_left 1
      · (intro w' hSw; (try (replace hSw := hSw (by decide); dsimp only at hSw)); go_split_ands; go_simp; try with_reducible rfl)
      simp only [Act.put, List.getElem_toArray, List.getElem_cons_zero, List.getElem_cons_succ, List.setIfInBounds_toArray, List.set_cons_zero, List.set_cons_succ]
      refine WL.take (i := 10) (v := ?_) rfl (by kernel_rfl) (by kernel_rfl) (by kernel_rfl) (by kernel_rfl) (fun _ _ _ h => h) (Or.inl ⟨by rfl, ?_⟩) (by assumption) ?_
      rotate_left 1
      · (intro w' hSw; (try (replace hSw := hSw (by decide); dsimp only at hSw)); go_split_ands; go_simp; try with_reducible rfl)
      simp only [Act.put, List.getElem_toArray, List.getElem_cons_zero, List.getElem_cons_succ, List.setIfInBounds_toArray, List.set_cons_zero, List.set_cons_succ]
      refine WL.take (i := 11) (v := ?_) rfl (by kernel_rfl) (by kernel_rfl) (by kernel_rfl) (by kernel_rfl) (fun _ _ _ h => h) (Or.inl ⟨by rfl, ?_⟩) (by assumption) ?_
      rotate_left 1
      · (intro w' hSw; (try (replace hSw := hSw (by decide); dsimp only at hSw)); go_split_ands; go_simp; try with_reducible rfl)
      simp only [Act.put, List.getElem_toArray, List.getElem_cons_zero, List.getElem_cons_succ, List.setIfInBounds_toArray, List.set_cons_zero, List.set_cons_succ]
      refine WL.take (i := 12) (v := ?_) rfl (by kernel_rfl) (by kernel_rfl) (by kernel_rfl) (by kernel_rfl) (fun _ _ _ h => h) (Or.inl ⟨by rfl, ?_⟩) (by assumption) ?_
      rotate_left 1
      · (intro w' hSw; (try (replace hSw := hSw (by decide); dsimp only at hSw)); go_split_ands; go_simp; try with_reducible rfl)
      simp only [Act.put, List.getElem_toArray, List.getElem_cons_zero, List.getElem_cons_succ, List.setIfInBounds_toArray, List.set_cons_zero, List.set_cons_succ]
      refine WL.take (i := 13) (v := ?_) rfl (by kernel_rfl) (by kernel_rfl) (by kernel_rfl) (by kernel_rfl) (fun _ _ _ h => h) (Or.inl ⟨by rfl, ?_⟩) (by assumption) ?_
      rotate_left 1
      · (intro w' hSw; (try (replace hSw := hSw (by decide); dsimp only at hSw)); go_split_ands; go_simp; try with_reducible rfl)
      simp only [Act.put, List.getElem_toArray, List.getElem_cons_zero, List.getElem_cons_succ, List.setIfInBounds_toArray, List.set_cons_zero, List.set_cons_succ]
      refine WL.take (i := 14) (v := ?_) rfl (by kernel_rfl) (by kernel_rfl) (by kernel_rfl) (by kernel_rfl) (fun _ _ _ h => h) (Or.inl ⟨by rfl, ?_⟩) (by assumption) ?_
      rotate_left 1
      · (intro w' hSw; (try (replace hSw := hSw (by decide); dsimp only at hSw)); go_split_ands; go_simp; try with_reducible rfl)
      simp only [Act.put, List.getElem_toArray, List.getElem_cons_zero, List.getElem_cons_succ, List.setIfInBounds_toArray, List.set_cons_zero, List.set_cons_succ]
      refine WL.one (i := 15) (by kernel_rfl) rfl (fun K hK => ?_)
      go_simp
      have hbn : Below ws.heap.size ws (ws.alloc (.cells #[.int .i64 ((a : Int) + b)] 3)).drew := ((Below.refl _ _).alloc (Nat.le_refl _) _).drew
      have hrn : RN .i64 (ws.alloc (.cells #[.int .i64 ((a : Int) + b)] 3)).drew (some ⟨ws.heap.size, 0, none⟩) [a + b] := by
        have := RN_one .i64 3 ws (a + b)
        rw [show ((a + b : Nat) : Int) = (a : Int) + b by omega] at this
        exact this.below (Below.refl _ _).drew
      have hT5 := (⟨(hbn.cell (p := ⟨bR, 1, none⟩) hlR1).trans kb, (hbn.cell (p := ⟨g5, o5 + i, none⟩) hl5).trans hc5', (hbn.cell (p := ⟨gx, 32, none⟩) hlx).trans kx⟩ : (ws.alloc (.cells #[.int .i64 ((a : Int) + b)] 3)).drew.cell? ⟨bR, 1, none⟩ = some (.slice (some ⟨g5, o5, none⟩) (i + 1) c5) ∧ (ws.alloc (.cells #[.int .i64 ((a : Int) + b)] 3)).drew.cell? ⟨g5, o5 + i, none⟩ = some (.int .i64 (a : Nat)) ∧ (ws.alloc (.cells #[.int .i64 ((a : Int) + b)] 3)).drew.cell? ⟨gx, 32, none⟩ = some (.int .i64 (b : Nat)))
      refine hK.out _ _ (fun _ => hT5) ?_
      clear hK K
      have ho5 := HO1.out.kept hbn
      have hb5 := HB1.out.trans (hbn.mono hs1)
      have hg5' := (hbn.block bR hlR1).trans HG1.out
      have hs5 := hb5.size
      generalize (ws.alloc (.cells #[.int .i64 ((a : Int) + b)] 3)).drew = w5 at hrn hT5 ho5 hb5 hg5' hs5 ⊢
      generalize ws.heap.size = gl at hrn ⊢
      refine WL.late (i := 16) (by kernel_rfl) rfl (by kernel_rfl) (fun K hK => ?_)
      rw [if_pos (by rfl)]
      refine wp_append_NN w2.heap.size (.tmp 29) (.tmp 40) 126 3 .i64 8 (by rfl) Tryz.underlying126 info_i64 (by decide) (.slice (some ⟨g5, o5, none⟩) (i + 1) c5) (begins l i) [a + b] (some ⟨gl, 0, none⟩) 1 (by rfl) (by rfl) ho5 hrn hs5 (by rw [begins_len]; simp; omega) ?_
      intro v7 w7 ho7 hg7 _
      have hty : ∀ k, (Value.slice (some ⟨g5, o5, none⟩) (i + 1) c5).ownBlock = some k → k ≠ bR := fun k hk e => by
        obtain ⟨_, _, cs, h2⟩ := ho5.typed k hk
        rw [e, hg5'] at h2
        injection h2 with h2
        injection h2 with _ h2 _
        exact absurd h2 (by decide)
      have hgR := (hg7.block bR (Array.getElem?_eq_some_iff.1 hg5').1 (fun e => hty bR e.symm rfl)).trans hg5'
      have hb7 : Below w2.heap.size w2 w7 := hb5.trans (below_grown ho5 hs5 hg7)
      have ho7' : OwnN .i64 3 w7 w2.heap.size v7 (begins l (i + 1)) := by rw [begins_succ, HUS.out]; exact ho7
      obtain ⟨A7, c7, e7, hc7, _⟩ := ho7'.reads
      subst e7
      have K2 : w7.cell? ⟨bR, 1, none⟩ = some (.slice (some ⟨g5, o5, none⟩) (i + 1) c5) := by rw [cell_of_row _ _ _ _ _ _ hgR]; rfl
      have K3 : w7.frozen? ⟨bR, 1, none⟩ = false := frozen_of_row _ _ _ _ _ hgR
      have HO7 := Lib.hid ho7'
      have HG7 := Lib.hid hgR
      have HB7 := Lib.hid hb7
      have hne7 : ∀ k, (Value.slice A7 (begins l (i + 1)).length c7).ownBlock = some k → k ≠ bR := fun k hk e => by
        obtain ⟨_, _, cs, h2⟩ := HO7.out.typed k hk
        rw [e, HG7.out] at h2
        injection h2 with h2
        injection h2 with _ h2 _
        exact absurd h2 (by decide)
      have HNE := Lib.hid hne7
      clear ho7 hg7 hty hb7 ho7' hgR ho5 hb5 hg5' hrn hT5 hne7
      go_simp
      refine hK.out _ _ ?_
      clear hK K
      refine WL.late (i := 17) (by kernel_rfl) rfl (by kernel_rfl) (fun K hK => ?_)
      go_simp
      refine hK.out _ _ ?_
      clear hK K
      refine WL.late (i := 18) (by kernel_rfl) rfl (by kernel_rfl) (fun K hK => ?_)
      go_simp
      refine hK.out _ _ ?_
      clear hK K
      refine WL.late (i := 19) (by kernel_rfl) rfl (by kernel_rfl) (fun K hK => ?_)
      go_simp
      refine hK.out _ _ ?_
      clear hK K
      refine WL.done (by kernel_rfl) ?_ _
      go_wp2_with fail
      exact ⟨⟨i + 1, _, by omega, by go_num, HO7.out.move (fun k hk => heap_setCell_other _ _ _ _ (fun e => HNE.out k hk e)), heap_setCell_same w7 bR 1 _ _ _ HG7.out, HB7.out.setCell (by show w2.heap.size ≤ bR; omega) _⟩, by simp [intOf]; omega⟩
    · have d1 : decide ((i : Int) < (l.length : Int)) = false := decide_eq_false (by omega)
      obtain rfl : i = l.length := by omega
      go_wp2_with fail
      go_ret2
      obtain ⟨A5, c5, e5, hc5, hr5, _⟩ := RV.ofOwn (show wr.ownsRow w2.heap.size 3 1 vB (begins l l.length).length ((begins l l.length).map (encN .i64)) from HO.out)
      subst e5
      have hg := HG.out
      rw [begins_len] at hr5 hg
      exact ⟨bR, rfl, ⟨A2, c2, A5, c5, hg, HR2.out.below HB.out, hr5⟩, by omega, HB2.out.trans (HB.out.mono (by omega))⟩
end Go.Proofs.YtbcamfbbooggfaaGreat.F
end

section
/- A recipe's size; the chunk in which a byte is. -/
set_option linter.unusedVariables false
set_option linter.unusedSimpArgs false
namespace Go.Proofs.YtbcamfbbooggfaaGreat.F
open Go.RowKit Go.Proofs.YtbcamfbbooggfaaGreatW.PrintWords

/-- What stands in a recipe's cells. -/
theorem RC.cells {W : World} {b : Nat} {l : List Rf} (h : RC W b l) : ∃ A c g2 o2 c2, W.cell? ⟨b, 0, none⟩ = some (.slice A l.length c) ∧ W.cell? ⟨b, 1, none⟩ = some (.slice (some ⟨g2, o2, none⟩) (l.length + 1) c2) ∧
    (∀ i, i ≤ l.length → W.cell? ⟨g2, o2 + i, none⟩ = some (.int .i64 (upto l i : Nat))) ∧ RV 64 W A l.length (flatRf l) := by
  obtain ⟨A, c, A2, c2, h1, h2, h3⟩ := h
  obtain ⟨g2, o2, e, _, hc⟩ := h3.2 (by omega)
  subst e
  refine ⟨A, c, g2, o2, c2, by rw [cell_of_row _ _ _ _ _ _ h1]; rfl, by rw [cell_of_row _ _ _ _ _ _ h1]; rfl, fun i hi => hc i _ ?_, h2⟩
  simp [begins, encN, show i < l.length + 1 by omega]
set_option maxRecDepth 20000 in
set_option maxHeartbeats 4000000 in
theorem RSize_c (b : Nat) (l : List Rf) (w : World) (h : RC w b l) (hl : l.length ≤ 256) :
    Calls Tryz.prog 20 #[.pointer (some ⟨b, 0, none⟩)] w fun e w' => e = .returned (.int .i64 (upto l l.length : Nat)) ∧ Below w.heap.size w w' := by
  obtain ⟨A, c, g2, o2, c2, k0, k1, kb, _⟩ := h.cells
  have kl := kb l.length (Nat.le_refl _)
  obtain ⟨n, hn⟩ : ∃ n, l.length = n := ⟨_, rfl⟩
  rw [hn] at k0 k1 kl hl
  obtain ⟨u, hu⟩ : ∃ u, upto l n = u := ⟨_, rfl⟩
  rw [hu] at kl
  have i0 : (0 : Int) ≤ (n : Int) := by omega
  have i1 : (n : Int) < (n : Int) + 1 := by omega
  rw [hn, hu]
  clear kb hn hu h
  go_enter Tryz.func20, Tryz.ntmps20
  go_wp2_with fail
  go_quiet (fail)
  generalize hWq : World.drewN w _ = wq
  have HBQ := Lib.hid (show Below w.heap.size w wq from hWq ▸ pw_below_drewN (Below.refl _ _) _)
  clear hWq
  go_wp2_with fail
  go_ret
  exact ⟨rfl, HBQ.out⟩
/-- The chunk in which a byte is. -/
theorem upto_mono (l : List Rf) (i j : Nat) (h : i ≤ j) : upto l i ≤ upto l j := by
  induction j with
  | zero =>
    obtain rfl : i = 0 := by omega
    exact Nat.le_refl _
  | succ j ih =>
    rcases Nat.lt_or_ge i (j + 1) with h1 | h1
    · refine Nat.le_trans (ih (by omega)) ?_
      rcases Nat.lt_or_ge j l.length with h2 | h2
      · rw [upto_succ l j h2]; omega
      · have : upto l (j + 1) = upto l j := by unfold upto; rw [List.take_of_length_le (by omega), List.take_of_length_le (by omega)]
        omega
    · obtain rfl : i = j + 1 := by omega
      exact Nat.le_refl _
set_option maxRecDepth 20000 in
set_option maxHeartbeats 8000000 in
theorem Find_out (b : Nat) (l : List Rf) (a : Nat) (w : World) (h : RC w b l) (hl : l.length ≤ 256) (hk : ∀ r ∈ l, RfOk r) (ha : upto l l.length ≤ a) (ham : a ≤ 1000000000) :
    Calls Tryz.prog 86 #[.pointer (some ⟨b, 0, none⟩), .int .i64 (a : Nat)] w fun e w' => e = .returned (.tuple #[.int .i64 0, .int .i64 0, .bool false]) ∧ Below w.heap.size w w' := by
  have hs := RSize_c b l w h hl
  obtain ⟨u, hu⟩ : ∃ u, upto l l.length = u := ⟨_, rfl⟩
  rw [hu] at hs ha
  have HS := Lib.hid hs
  have d1 : decide ((a : Int) < 0) = false := decide_eq_false (by omega)
  have d2 : decide ((u : Int) ≤ (a : Int)) = true := decide_eq_true (by omega)
  clear hs h hu hk
  go_enter Tryz.func86, Tryz.ntmps86
  go_wp2_with fail
  refine HS.out.mono ?_
  rintro e w1 ⟨rfl, hb1⟩
  have HB1 := Lib.hid hb1
  clear hb1
  go_wp2_with fail
  go_ret3
  exact ⟨rfl, HB1.out⟩
set_option maxRecDepth 20000 in
set_option maxHeartbeats 8000000 in
theorem Find_c (b : Nat) (l : List Rf) (a : Nat) (w : World) (h : RC w b l) (hl : l.length ≤ 256) (hk : ∀ r ∈ l, RfOk r) (ha : a < upto l l.length) :
    Calls Tryz.prog 86 #[.pointer (some ⟨b, 0, none⟩), .int .i64 (a : Nat)] w fun e w' => ∃ i : Nat, i < l.length ∧ upto l i ≤ a ∧ a < upto l (i + 1) ∧ e = .returned (.tuple #[.int .i64 (i : Nat), .int .i64 ((a : Int) - (upto l i : Nat)), .bool true]) ∧ Below w.heap.size w w' := by
  have hs := RSize_c b l w h hl
  have hum := upto_le l hk l.length
  have h0 : 0 < l.length := by
    rcases Nat.eq_zero_or_pos l.length with h0 | h0
    · rw [h0] at ha; simp [upto] at ha
    · exact h0
  obtain ⟨n, hn⟩ : ∃ n, l.length = n := ⟨_, rfl⟩
  have HUA := Lib.hid (show a < upto l n from hn ▸ ha)
  obtain ⟨u, hu⟩ : ∃ u, upto l l.length = u := ⟨_, rfl⟩
  rw [hu] at hs ha hum
  have HS := Lib.hid hs
  have HC := Lib.hid h
  have HN := Lib.hid hn
  rw [hn] at hl h0 hum
  have d1 : decide ((a : Int) < 0) = false := decide_eq_false (by omega)
  have d2 : decide ((u : Int) ≤ (a : Int)) = false := decide_eq_false (by omega)
  clear hs h hu hk
  go_enter Tryz.func86, Tryz.ntmps86
  go_wp2_with fail
  refine HS.out.mono ?_
  rintro e w1 ⟨rfl, hb1⟩
  obtain ⟨A, c, g2, o2, c2, k0, k1, kb, _⟩ := (HC.out.below hb1).cells
  have HB1 := Lib.hid hb1
  rw [HN.out] at k0 k1 kb
  have hl2 := block_lt_of_cell k1
  have hl0 := block_lt_of_cell (kb 0 (by omega))
  clear hb1 hn
  have HKB := Lib.hid kb
  clear kb
  go_wp2_with fail
  go_quiet (fail)
  generalize hWq : World.drewN w1 _ = wq
  have hbq : Below w1.heap.size w1 wq := hWq ▸ pw_below_drewN (Below.refl _ _) _
  have HBQ := Lib.hid hbq
  clear hbq hWq
  go_wp2_with fail
  go_loopw [7, 8] (fun vl vh W => ∃ lo hi : Nat, lo < hi ∧ hi ≤ n ∧ vl = .int .i64 (lo : Nat) ∧ vh = .int .i64 (hi : Nat) ∧ upto l lo ≤ a ∧ a < upto l hi ∧ Below w1.heap.size w1 W) (fun vl vh _ => (intOf vh).toNat - (intOf vl).toNat)
  case atStart => exact ⟨0, n, h0, Nat.le_refl _, rfl, rfl, by simp [upto], HUA.out, HBQ.out⟩
  case round =>
    obtain ⟨lo, hi, hlh, hhn, rfl, rfl, hlo, hhi, hB⟩ := hrel
    have HB := Lib.hid hB
    have k1' : wr.cell? ⟨b, 1, none⟩ = some (.slice (some ⟨g2, o2, none⟩) (n + 1) c2) := (hB.cell (p := ⟨b, 1, none⟩) hl2).trans k1
    have kb' : ∀ i, i ≤ n → wr.cell? ⟨g2, o2 + i, none⟩ = some (.int .i64 (upto l i : Nat)) := fun i hi => (hB.cell (p := ⟨g2, o2 + i, none⟩) hl0).trans (HKB.out i hi)
    have HLO := Lib.hid hlo
    have HHI := Lib.hid hhi
    have w1' : IntKind.i64.wrap ((hi : Int) - (lo : Int)) = (hi : Int) - (lo : Int) := by rw [IntKind.wrap_i64]; omega
    have w2' : IntKind.i64.wrap ((lo : Int) + (hi : Int)) = (lo : Int) + (hi : Int) := by rw [IntKind.wrap_i64]; omega
    clear hB hlo hhi
    by_cases hgt : 1 < hi - lo
    · have d3 : decide ((1 : Int) < (hi : Int) - (lo : Int)) = true := decide_eq_true (by omega)
      have hmd : ((lo : Int) + (hi : Int)).tdiv 2 = (((lo + hi) / 2 : Nat) : Int) := by rw [Int.tdiv_eq_ediv_of_nonneg (by omega)]; omega
      have hmd2 : ((lo : Int) + (hi : Int)) / 2 = (((lo + hi) / 2 : Nat) : Int) := by omega
      have hm1 : lo < (lo + hi) / 2 := by omega
      have hm2 : (lo + hi) / 2 < hi := by omega
      obtain ⟨m, hm⟩ : ∃ m, (lo + hi) / 2 = m := ⟨_, rfl⟩
      rw [hm] at hmd hmd2 hm1 hm2
      have km := kb' m (by omega)
      have wm : IntKind.i64.wrap (m : Int) = (m : Int) := by rw [IntKind.wrap_i64]; omega
      obtain ⟨um, hum2⟩ : ∃ um, upto l m = um := ⟨_, rfl⟩
      rw [hum2] at km
      have HUM := Lib.hid hum2
      have i0 : (0 : Int) ≤ (m : Int) := by omega
      have i1 : (m : Int) < (n : Int) + 1 := by omega
      clear hm hum2 kb'
      by_cases hle : um ≤ a
      · have d4 : decide ((um : Int) ≤ (a : Int)) = true := decide_eq_true (by omega)
        go_wp2_with fail
        exact ⟨⟨m, hi, hm2, hhn, rfl, rfl, by rw [HUM.out]; exact hle, HHI.out, HB.out⟩, by simp [intOf]; omega⟩
      · have d4 : decide ((um : Int) ≤ (a : Int)) = false := decide_eq_false (by omega)
        go_wp2_with fail
        exact ⟨⟨lo, m, hm1, by omega, rfl, rfl, HLO.out, by rw [HUM.out]; omega, HB.out⟩, by simp [intOf]; omega⟩
    · have d3 : decide ((1 : Int) < (hi : Int) - (lo : Int)) = false := decide_eq_false (by omega)
      obtain rfl : hi = lo + 1 := by omega
      have km := kb' lo (by omega)
      obtain ⟨um, hum2⟩ : ∃ um, upto l lo = um := ⟨_, rfl⟩
      rw [hum2] at km
      have hum3 : um ≤ a := by rw [← hum2]; exact HLO.out
      have HUM := Lib.hid hum2
      have i0 : (0 : Int) ≤ (lo : Int) := by omega
      have i1 : (lo : Int) < (n : Int) + 1 := by omega
      have w3 : IntKind.i64.wrap ((a : Int) - (um : Int)) = (a : Int) - (um : Int) := by rw [IntKind.wrap_i64]; omega
      clear hum2 kb'
      go_wp2_with fail
      go_quiet (fail)
      generalize hWx : World.drewN wr _ = wx
      have HBX := Lib.hid (show Below w1.heap.size w1 wx from hWx ▸ pw_below_drewN HB.out _)
      clear hWx
      go_wp2_with fail
      go_ret3
      exact ⟨lo, by rw [HN.out]; omega, HLO.out, HHI.out, by rw [HUM.out]; rfl, HB1.out.trans (HBX.out.mono HB1.out.size)⟩
end Go.Proofs.YtbcamfbbooggfaaGreat.F
end
