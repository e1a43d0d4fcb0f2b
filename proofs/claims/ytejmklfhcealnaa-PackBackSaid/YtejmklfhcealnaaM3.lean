/- A slot's bytes, by both. -/
import Derived.Test.YtejmklfhcealnaaK4
import Derived.Stop.BytesEq
import Derived.Deep.MidRow
import Derived.Test.YtejmklfhcealnaaDy
set_option linter.unusedVariables false
set_option linter.unusedSimpArgs false
namespace Go.Proofs.Ytejmklfhcealnaa.F
open Go.RowKit Go.Proofs.YtejmklfhcealnaaW.PrintWords
attribute [local go_sem ↓] Go.wp_at_zero Go.wp_at_succ

/-- 'xs[lo:hi]'. -/
theorem RN.mid {P : Program} (t e : TypeId) (k : IntKind) {i : TypeInfo} (ht : P.underlying t = some (.slice e)) (hi : P.info? e = some i) (hsz : i.size = 1) (A : Option Addr) (n c lo hh : Nat) (h1 : lo ≤ hh) (h2 : hh ≤ n) (h3 : n ≤ c) :
    ∃ A' : Option Addr, (∀ W : World, (Instr.slice t (.slice A n c) (some (.int .i64 (lo : Int))) (some (.int .i64 (hh : Int))) none).run P W = .ok (.slice A' (hh - lo) (c - lo)) W) ∧
      ∀ (w : World) (xs : List Nat), xs.length = n → RN k w A xs → RN k w A' ((xs.drop lo).take (hh - lo)) := by
  have hel : P.elem t = e := by simp [Program.elem, ht]
  have hu : P.underlying t = some (.slice (P.elem t)) := by rw [hel]; exact ht
  refine ⟨if c = lo then A else A.map (·.add lo), fun W => ?_, fun w xs hx h => ?_⟩
  · rw [run_slice_lh W t A n c hu .i64 .i64 (lo : Int) (hh : Int) (Int.natCast_nonneg _) (by omega) (by omega), hel]
    simp [sizeOf, typeInfo, hi, hsz, sliced, Result.andThen]
  · have ht := (Kd.reads_of_C (enc := encN k) (d := 0) (h1 := fun _ => rfl) (h.take hh (by omega)))
    have hr := ht.drop_ (c := c) lo (by rw [List.length_take]; omega) (by rw [List.length_take]; omega)
    rw [← List.drop_take]
    unfold RN
    rw [List.length_drop]
    exact Kd.C_of_reads hr
theorem info_u8'' : ∃ i, Try.prog.info? 5 = some i ∧ i.size = 1 := by
  obtain ⟨i, hi, hz⟩ := Option.map_eq_some_iff.1 info_u8
  simp only [Prod.mk.injEq] at hz
  exact ⟨i, hi, hz.2.1⟩
theorem bytes_cells (q : List Nat) (h : ∀ x ∈ q, x < 256) : (q.map (encN .u8)).toArray = ((q.map UInt8.ofNat).map Extern.Stop.cell).toArray := by
  congr 1
  rw [List.map_map]
  apply List.map_congr_left
  intro x hx
  show encN .u8 x = Extern.Stop.cell (UInt8.ofNat x)
  unfold encN Extern.Stop.cell
  rw [show (UInt8.ofNat x).toNat = x by rw [UInt8.toNat_ofNat']; exact Nat.mod_eq_of_lt (h x hx)]
  rfl
theorem ofNat_inj : ∀ (p q : List Nat), (∀ x ∈ p, x < 256) → (∀ x ∈ q, x < 256) → p.map UInt8.ofNat = q.map UInt8.ofNat → p = q
  | [], [], _, _, _ => rfl
  | [], y :: q, _, _, h => by simp at h
  | x :: p, [], _, _, h => by simp at h
  | x :: p, y :: q, hp, hq, h => by
    rw [List.map_cons, List.map_cons] at h
    injection h with h1 h2
    have h3 := congrArg UInt8.toNat h1
    rw [UInt8.toNat_ofNat', UInt8.toNat_ofNat', Nat.mod_eq_of_lt (hp x (by simp)), Nat.mod_eq_of_lt (hq y (by simp))] at h3
    rw [h3, ofNat_inj p q (fun z hz => hp z (by simp [hz])) (fun z hz => hq z (by simp [hz])) h2]
theorem eql_32 (w : World) (p q : List Nat) (hp : p.length = 32) (hq : q.length = 32) (hp2 : ∀ x ∈ p, x < 256) (hq2 : ∀ x ∈ q, x < 256) :
    Sem.run Try.prog (binOp BinOp.eql 36 (.agg (p.map (encN .u8)).toArray) (.agg (q.map (encN .u8)).toArray)) w = Result.ok (.bool (decide (p = q))) w := by
  rw [bytes_cells p hp2, bytes_cells q hq2, run_eql_bytes w 36 5 32 Try.underlying36 Try.underlying5 (fun _ => by kernel_rfl) _ _ (by simp [hp]) (by simp [hq])]
  congr 2
  rw [Bool.eq_iff_iff]
  simp only [beq_iff_eq, decide_eq_true_eq]
  exact ⟨ofNat_inj p q hp2 hq2, fun h => by rw [h]⟩
theorem neq_32 (w : World) (p q : List Nat) (hp : p.length = 32) (hq : q.length = 32) (hp2 : ∀ x ∈ p, x < 256) (hq2 : ∀ x ∈ q, x < 256) :
    Sem.run Try.prog (binOp BinOp.neq 36 (.agg (p.map (encN .u8)).toArray) (.agg (q.map (encN .u8)).toArray)) w = Result.ok (.bool (!decide (p = q))) w := by
  rw [bytes_cells p hp2, bytes_cells q hq2, run_neq_struct, run_equalIn_bytes w 9998 36 5 32 Try.underlying36 Try.underlying5 (fun _ => by kernel_rfl) _ _ (by simp [hp]) (by simp [hq])]
  show Result.ok (Value.bool _) w = Result.ok (Value.bool _) w
  congr 3
  rw [Bool.eq_iff_iff]
  simp only [beq_iff_eq, decide_eq_true_eq]
  exact ⟨ofNat_inj p q hp2 hq2, fun h => by rw [h]⟩
/-- A slot by value. -/
def slV (q : List Nat) (a n : Int) : Array Value := (q.map (encN .u8) ++ [Value.int .i64 a, Value.int .i64 n]).toArray
/-- A slot's bytes, or why there are none. -/
def chunkA (bs q : List Nat) (a n : Int) : Int × List Nat :=
  if n < 1 ∨ 512 < n ∨ a < 0 then (2, []) else if (bs.length : Int) < a ∨ (bs.length : Int) - a < n then (3, []) else
  if sumN ((bs.drop a.toNat).take n.toNat) = q then (0, (bs.drop a.toNat).take n.toNat) else (13, [])
def ChunkAns (r : Int × List Nat) (w : World) (e : Ending) (w' : World) : Prop :=
  ∃ A c, e = .returned (.tuple #[.slice A r.2.length c, .int .i64 r.1]) ∧ r.2.length ≤ c ∧ RN .u8 w' A r.2 ∧ Below w.heap.size w w'
theorem slV_size (q : List Nat) (a n : Int) (h : q.length = 32) : (slV q a n).size = 34 := by simp [slV, h]
theorem slV_32 (q : List Nat) (a n : Int) (h : q.length = 32) : (slV q a n)[32]? = some (.int .i64 a) := by
  unfold slV
  rw [List.getElem?_toArray, List.getElem?_append_right (by simp [h])]
  simp [h]
theorem slV_33 (q : List Nat) (a n : Int) (h : q.length = 32) : (slV q a n)[33]? = some (.int .i64 n) := by
  unfold slV
  rw [List.getElem?_toArray, List.getElem?_append_right (by simp [h])]
  simp [h]
theorem slV_range {W : World} {g : Nat} {t : TypeId} {z : Nat × Nat} {q : List Nat} {a n : Int} (hg : W.heap[g]? = some (.cells (slV q a n) t z)) : W.rangeAt g 0 (q.map (encN .u8)) := fun j v hv => by
  rw [cell_of_row _ _ _ _ _ _ hg, Nat.zero_add]
  unfold slV
  rw [List.getElem?_toArray, List.getElem?_append_left (List.getElem?_eq_some_iff.1 hv).1]
  exact hv
set_option maxRecDepth 20000 in
set_option maxHeartbeats 4000000 in
theorem ChunkF_c (A : Option Addr) (c : Nat) (bs q : List Nat) (a n : Int) (w : World) (hr : RN .u8 w A bs) (hb : ∀ x ∈ bs, x < 256) (hcap : bs.length ≤ c) (hq : q.length = 32) (hq2 : ∀ x ∈ q, x < 256) (ha : -9223372036854775808 ≤ a ∧ a ≤ 9223372036854775807) (hn : -9223372036854775808 ≤ n ∧ n ≤ 9223372036854775807) :
    Calls Try.prog 16 #[.slice A bs.length c, .agg (slV q a n)] w (ChunkAns (chunkA bs q a n) w) := by
  have hm := hr.max
  have hbx : Below w.heap.size w (w.alloc (.cells (slV q a n) 38)) := (Below.refl _ _).alloc (Nat.le_refl _) _
  have hgx : (w.alloc (.cells (slV q a n) 38)).heap[w.heap.size]? = some (.cells (slV q a n) 38 (0, 0)) := heap_alloc_new _ _
  have k32 : (w.alloc (.cells (slV q a n) 38)).cell? ⟨w.heap.size, 32, none⟩ = some (.int .i64 a) := by rw [cell_of_row _ _ _ _ _ _ hgx]; exact slV_32 q a n hq
  have k33 : (w.alloc (.cells (slV q a n) 38)).cell? ⟨w.heap.size, 33, none⟩ = some (.int .i64 n) := by rw [cell_of_row _ _ _ _ _ _ hgx]; exact slV_33 q a n hq
  have hrg := slV_range hgx
  have hr1 := hr.below hbx
  have hsz : (w.alloc (.cells (slV q a n) 38)).heap.size = w.heap.size + 1 := by simp
  have hch : chunkA bs q a n = if n < 1 ∨ 512 < n ∨ a < 0 then (2, []) else if (bs.length : Int) < a ∨ (bs.length : Int) - a < n then (3, []) else
    if sumN ((bs.drop a.toNat).take n.toNat) = q then (0, (bs.drop a.toNat).take n.toNat) else (13, []) := rfl
  obtain ⟨R, hR⟩ : ∃ R, chunkA bs q a n = R := ⟨_, rfl⟩
  rw [hR] at hch ⊢
  have herr : ∀ E : Int, ChunkAns (E, []) w (.returned (.tuple #[.slice none 0 0, .int .i64 E])) (w.alloc (.cells (slV q a n) 38)) := fun E => ⟨none, 0, rfl, by simp, RN.nil _ _, hbx⟩
  obtain ⟨C, hC⟩ : ∃ C, slV q a n = C := ⟨_, rfl⟩
  rw [hC] at hbx hgx k32 k33 hrg hr1 hsz herr ⊢
  have HERR := Lib.hid herr
  have HB := Lib.hid hbx
  have HG := Lib.hid hgx
  have HRG := Lib.hid hrg
  have HR1 := Lib.hid hr1
  have HSZ := Lib.hid hsz
  have HQ := Lib.hid hq
  have HQ2 := Lib.hid hq2
  have HBB := Lib.hid hb
  clear herr hbx hgx hrg hr1 hsz hq hq2 hb hR hr hC
  by_cases g1 : n < 1
  · have d1 : decide (n < 1) = true := decide_eq_true g1
    rw [if_pos (.inl g1)] at hch
    subst hch
    go_enter Try.func16, Try.ntmps16
    go_wp2_with fail
    go_ret2
    exact HERR.out 2
  have d1 : decide (n < 1) = false := decide_eq_false g1
  by_cases g2 : 512 < n
  · have d2 : decide (512 < n) = true := decide_eq_true g2
    rw [if_pos (.inr (.inl g2))] at hch
    subst hch
    go_enter Try.func16, Try.ntmps16
    go_wp2_with fail
    go_ret2
    exact HERR.out 2
  have d2 : decide (512 < n) = false := decide_eq_false g2
  by_cases g3 : a < 0
  · have d3 : decide (a < 0) = true := decide_eq_true g3
    rw [if_pos (.inr (.inr g3))] at hch
    subst hch
    go_enter Try.func16, Try.ntmps16
    go_wp2_with fail
    go_ret2
    exact HERR.out 2
  have d3 : decide (a < 0) = false := decide_eq_false g3
  rw [if_neg (by omega)] at hch
  by_cases g4 : (bs.length : Int) < a
  · have d4 : decide ((bs.length : Int) < a) = true := decide_eq_true g4
    rw [if_pos (.inl g4)] at hch
    subst hch
    go_enter Try.func16, Try.ntmps16
    go_wp2_with fail
    go_ret2
    exact HERR.out 3
  have d4 : decide ((bs.length : Int) < a) = false := decide_eq_false g4
  by_cases g5 : (bs.length : Int) - a < n
  · have d5 : decide ((bs.length : Int) - a < n) = true := decide_eq_true g5
    rw [if_pos (.inr g5)] at hch
    subst hch
    go_enter Try.func16, Try.ntmps16
    go_wp2_with fail
    go_ret2
    exact HERR.out 3
  rw [if_neg (by omega)] at hch
  obtain ⟨a', rfl⟩ : ∃ a' : Nat, a = a' := ⟨a.toNat, by omega⟩
  obtain ⟨n', rfl⟩ : ∃ n' : Nat, n = n' := ⟨n.toNat, by omega⟩
  have d5 : decide ((bs.length : Int) - a' < n') = false := decide_eq_false g5
  have d4' : decide (bs.length < a') = false := decide_eq_false (by omega)
  have d1' : decide (n' < 1) = false := decide_eq_false (by omega)
  have d2' : decide (512 < n') = false := decide_eq_false (by omega)
  obtain ⟨i0, hi0, hs0⟩ := info_u8''
  obtain ⟨A', hx, hy⟩ := RN.mid (P := Try.prog) 27 5 .u8 Try.underlying27 hi0 hs0 A bs.length c a' (a' + n') (by omega) (by omega) hcap
  rw [show a' + n' - a' = n' by omega] at hx hy
  rw [show (((a' + n' : Nat)) : Int) = (a' : Int) + n' by omega] at hx
  have hlp : ((bs.drop a').take n').length = n' := by rw [List.length_take, List.length_drop]; omega
  have hbp : ∀ x ∈ (bs.drop a').take n', x < 256 := fun x hx => HBB.out x (List.mem_of_mem_drop (List.mem_of_mem_take hx))
  have hrp := hy _ bs rfl HR1.out
  rw [Int.toNat_natCast, Int.toNat_natCast] at hch
  obtain ⟨p, hp⟩ : ∃ p, (bs.drop a').take n' = p := ⟨_, rfl⟩
  rw [hp] at hlp hbp hrp hch
  have hsl := sumN_len p
  have hse := fun w => neq_32 w (sumN p) q hsl HQ.out (sumN_lt p) HQ2.out
  have hn512 : n' ≤ 512 := by omega
  have hcn : p.length ≤ c - a' := by omega
  have HRP := Lib.hid hrp
  have HBP := Lib.hid hbp
  have HLP := Lib.hid hlp
  have HSE := Lib.hid hse
  have HCH := Lib.hid hch
  have hadd : (a' : Int) + n' ≤ 9223372036854775807 := by omega
  have i1 : (0 : Int) ≤ (a' : Int) := by omega
  have i2 : (a' : Int) ≤ (a' : Int) + n' := by omega
  have i3 : (a' : Int) + n' ≤ (bs.length : Int) := by omega
  clear hrp hbp hlp hse hch hp hsl hy g1 g2 g3 g4 g5 hi0 hs0
  go_enter Try.func16, Try.ntmps16
  go_wp2_with fail
  have hcl := CloneB_c A' (c - a') p _ HRP.out (by have := HLP.out; omega) hcn
  rw [HLP.out] at hcl
  refine hcl.mono ?_
  rintro e w2 ⟨v2, rfl, ho2, hb2⟩
  obtain ⟨A2, c2, e2, hc2, hr2⟩ := ho2.reads
  subst e2
  have hbw : Below w.heap.size w w2 := HB.out.trans (hb2.mono (by rw [HSZ.out]; omega))
  have hg2' := (hb2.block w.heap.size (by rw [HSZ.out]; omega)).trans HG.out
  have hT2 : w2.rangeAt w.heap.size 0 (q.map (encN .u8)) := fun j v hv => (cell_move (a := ⟨w.heap.size, 0 + j, none⟩) (hb2.block w.heap.size (by rw [HSZ.out]; omega))).trans (HRG.out j v hv)
  have HR2 := Lib.hid hr2
  have HBW := Lib.hid hbw
  have hs2 := hbw.size
  have hgl := (Array.getElem?_eq_some_iff.1 hg2').1
  have hinf : (Try.prog.info? 36).map (·.size) = some (q.map (encN .u8)).length := by rw [List.length_map, HQ.out]; exact info32
  have HINF := Lib.hid hinf
  clear ho2 hbw hg2' hr2 hinf k32 k33 hcl hb2
  obtain ⟨Y, hY⟩ : ∃ Y, (q.map (encN .u8)) = Y := ⟨_, rfl⟩
  obtain ⟨X, hX⟩ : ∃ X, ((sumN p).map (encN .u8)).toArray = X := ⟨_, rfl⟩
  rw [hY] at hT2 HINF
  have HNQ : Hid (∀ w, Sem.run Try.prog (binOp BinOp.neq 36 (.agg X) (.agg Y.toArray)) w = Result.ok (.bool (!decide (sumN p = q))) w) := Lib.hid (fun w => by rw [← hX, ← hY]; exact HSE.out w)
  have HSUM : Hid (∀ W, Below w2.heap.size w2 W → Calls Try.prog 33 #[.slice A2 p.length c2] W fun e w' => e = .returned (.agg X) ∧ Below W.heap.size W w') := Lib.hid (fun W hB => by rw [← hX, ← shaA_eq]; exact digSum_c A2 c2 p W (HR2.out.below hB) HBP.out (by rw [HLP.out]; omega))
  clear hX hY
  go_wp2_with fail
  refine wp_region_late [3] (fun w' => w'.rangeAt w.heap.size 0 Y) (by kernel_rfl) ((World.rangeAt_drew _ _ _ _).2 hT2) (fun hT => ?_)
  refine WL.take (i := 0) (v := ?_) rfl (by kernel_rfl) (by kernel_rfl) (by kernel_rfl) (by kernel_rfl) (fun _ _ _ h => h) (Or.inl ⟨by rfl, ?_⟩) (by assumption) ?_
  rotate_left 1
  · (intro w' hSw; (try (replace hSw := hSw (by decide); dsimp only at hSw)); go_split_ands; go_simp; try with_reducible rfl)
  simp only [Act.put, List.getElem_toArray, List.getElem_cons_zero, List.getElem_cons_succ, List.setIfInBounds_toArray, List.set_cons_zero, List.set_cons_succ]
  refine WL.take (i := 2) (v := ?_) rfl (by kernel_rfl) (by kernel_rfl) (by kernel_rfl) (by kernel_rfl) (fun _ _ _ h => h) (Or.inl ⟨by rfl, ?_⟩) (by assumption) ?_
  rotate_left 1
  · (intro w' hSw; (try (replace hSw := hSw (by decide); dsimp only at hSw)); go_split_ands; go_simp; try with_reducible rfl)
  simp only [Act.put, List.getElem_toArray, List.getElem_cons_zero, List.getElem_cons_succ, List.setIfInBounds_toArray, List.set_cons_zero, List.set_cons_succ]
  refine WL.take (i := 3) (v := .agg Y.toArray) rfl (by kernel_rfl) (by kernel_rfl) (by kernel_rfl) (by kernel_rfl) (fun _ _ _ h => h) (yieldsIf_load_mid (by rfl) 36 (.tmp 49) (by rfl) w.heap.size 0 (by rfl) Y _ (fun w' h => h (by decide)) Try.underlying36 (by rfl) HINF.out) hT ?_
  simp only [Act.put, List.getElem_toArray, List.getElem_cons_zero, List.getElem_cons_succ, List.setIfInBounds_toArray, List.set_cons_zero, List.set_cons_succ]
  refine WL.one (i := 1) (by kernel_rfl) rfl (fun K hK => ?_)
  go_simp
  go_at_call 33
  refine (HSUM.out _ (Below.refl _ _).drew).mono ?_
  rintro e w3 ⟨rfl, hb3⟩
  replace hb3 : Below w2.heap.size w2 w3 := ⟨hb3.os, hb3.tape, hb3.output, hb3.size, hb3.block⟩
  have HR3 := Lib.hid (HR2.out.below hb3)
  have HB3 := Lib.hid (HBW.out.trans (hb3.mono hs2))
  have hT3 : w3.rangeAt w.heap.size 0 Y := fun j v hv => (cell_move (a := ⟨w.heap.size, 0 + j, none⟩) (hb3.block w.heap.size hgl)).trans (hT2 j v hv)
  clear hb3 hT hT2
  go_simp
  refine hK.out _ _ (fun _ => hT3) ?_
  clear hK K
  have hnq := HNQ.out
  by_cases hsq : sumN p = q
  · have hdq : decide (sumN p = q) = true := decide_eq_true hsq
    have hch := HCH.out
    rw [if_pos hsq] at hch
    have HCH2 := Lib.hid hch
    rw [hdq] at hnq
    clear hdq hsq hch
    refine WL.late (i := 4) (by kernel_rfl) rfl (by kernel_rfl) (fun K hK => ?_)
    go_simp
    refine hK.out _ _ ?_
    clear hK K
    refine WL.done (by kernel_rfl) ?_ _
    go_wp2_with fail
    go_ret2
    exact ⟨A2, c2, by rw [HCH2.out]; rfl, by rw [HCH2.out]; exact hc2, by rw [HCH2.out]; exact HR3.out, HB3.out⟩
  · have hdq : decide (sumN p = q) = false := decide_eq_false hsq
    have hch := HCH.out
    rw [if_neg hsq] at hch
    have HCH2 := Lib.hid hch
    rw [hdq] at hnq
    clear hdq hsq hch
    refine WL.late (i := 4) (by kernel_rfl) rfl (by kernel_rfl) (fun K hK => ?_)
    go_simp
    refine hK.out _ _ ?_
    clear hK K
    refine WL.done (by kernel_rfl) ?_ _
    go_wp2_with fail
    go_ret2
    exact ⟨none, 0, by rw [HCH2.out]; rfl, by rw [HCH2.out]; simp, by rw [HCH2.out]; exact RN.nil _ _, HB3.out⟩
end Go.Proofs.Ytejmklfhcealnaa.F

/- A slot's bytes, by the document. -/
set_option linter.unusedVariables false
set_option linter.unusedSimpArgs false
namespace Go.Proofs.Ytejmklfhcealnaa.F
open Go.RowKit Go.Proofs.YtejmklfhcealnaaW.PrintWords
attribute [local go_sem ↓] Go.wp_at_zero Go.wp_at_succ

set_option maxRecDepth 20000 in
set_option maxHeartbeats 4000000 in
theorem ChunkF_r (A : Option Addr) (c : Nat) (bs q : List Nat) (a n : Int) (w : World) (hr : RN .u8 w A bs) (hb : ∀ x ∈ bs, x < 256) (hcap : bs.length ≤ c) (hq : q.length = 32) (hq2 : ∀ x ∈ q, x < 256) (ha : -9223372036854775808 ≤ a ∧ a ≤ 9223372036854775807) (hn : -9223372036854775808 ≤ n ∧ n ≤ 9223372036854775807) :
    Calls Try.prog 17 #[.slice A bs.length c, .agg (slV q a n)] w (ChunkAns (chunkA bs q a n) w) := by
  have hm := hr.max
  have hbx : Below w.heap.size w (w.alloc (.cells (slV q a n) 38)) := (Below.refl _ _).alloc (Nat.le_refl _) _
  have hgx : (w.alloc (.cells (slV q a n) 38)).heap[w.heap.size]? = some (.cells (slV q a n) 38 (0, 0)) := heap_alloc_new _ _
  have k32 : (w.alloc (.cells (slV q a n) 38)).cell? ⟨w.heap.size, 32, none⟩ = some (.int .i64 a) := by rw [cell_of_row _ _ _ _ _ _ hgx]; exact slV_32 q a n hq
  have k33 : (w.alloc (.cells (slV q a n) 38)).cell? ⟨w.heap.size, 33, none⟩ = some (.int .i64 n) := by rw [cell_of_row _ _ _ _ _ _ hgx]; exact slV_33 q a n hq
  have hrg := slV_range hgx
  have hr1 := hr.below hbx
  have hsz : (w.alloc (.cells (slV q a n) 38)).heap.size = w.heap.size + 1 := by simp
  have hch : chunkA bs q a n = if n < 1 ∨ 512 < n ∨ a < 0 then (2, []) else if (bs.length : Int) < a ∨ (bs.length : Int) - a < n then (3, []) else
    if sumN ((bs.drop a.toNat).take n.toNat) = q then (0, (bs.drop a.toNat).take n.toNat) else (13, []) := rfl
  obtain ⟨R, hR⟩ : ∃ R, chunkA bs q a n = R := ⟨_, rfl⟩
  rw [hR] at hch ⊢
  have herr : ∀ E : Int, ChunkAns (E, []) w (.returned (.tuple #[.slice none 0 0, .int .i64 E])) (w.alloc (.cells (slV q a n) 38)) := fun E => ⟨none, 0, rfl, by simp, RN.nil _ _, hbx⟩
  obtain ⟨C, hC⟩ : ∃ C, slV q a n = C := ⟨_, rfl⟩
  rw [hC] at hbx hgx k32 k33 hrg hr1 hsz herr ⊢
  have HERR := Lib.hid herr
  have HB := Lib.hid hbx
  have HG := Lib.hid hgx
  have HRG := Lib.hid hrg
  have HR1 := Lib.hid hr1
  have HSZ := Lib.hid hsz
  have HQ := Lib.hid hq
  have HQ2 := Lib.hid hq2
  have HBB := Lib.hid hb
  clear herr hbx hgx hrg hr1 hsz hq hq2 hb hR hr hC
  by_cases g1 : n < 1
  · have d1 : decide (n < 1) = true := decide_eq_true g1
    rw [if_pos (.inl g1)] at hch
    subst hch
    go_enter Try.func17, Try.ntmps17
    go_wp2_with fail
    go_ret2
    exact HERR.out 2
  have d1 : decide (n < 1) = false := decide_eq_false g1
  by_cases g2 : 512 < n
  · have d2 : decide (512 < n) = true := decide_eq_true g2
    rw [if_pos (.inr (.inl g2))] at hch
    subst hch
    go_enter Try.func17, Try.ntmps17
    go_wp2_with fail
    go_ret2
    exact HERR.out 2
  have d2 : decide (512 < n) = false := decide_eq_false g2
  by_cases g3 : a < 0
  · have d3 : decide (a < 0) = true := decide_eq_true g3
    rw [if_pos (.inr (.inr g3))] at hch
    subst hch
    go_enter Try.func17, Try.ntmps17
    go_wp2_with fail
    go_ret2
    exact HERR.out 2
  have d3 : decide (a < 0) = false := decide_eq_false g3
  rw [if_neg (by omega)] at hch
  by_cases g4 : (bs.length : Int) < a
  · have d4 : decide ((bs.length : Int) < a) = true := decide_eq_true g4
    rw [if_pos (.inl g4)] at hch
    subst hch
    go_enter Try.func17, Try.ntmps17
    go_wp2_with fail
    go_ret2
    exact HERR.out 3
  have d4 : decide ((bs.length : Int) < a) = false := decide_eq_false g4
  by_cases g5 : (bs.length : Int) - a < n
  · have d5 : decide ((bs.length : Int) - a < n) = true := decide_eq_true g5
    rw [if_pos (.inr g5)] at hch
    subst hch
    go_enter Try.func17, Try.ntmps17
    go_wp2_with fail
    go_ret2
    exact HERR.out 3
  rw [if_neg (by omega)] at hch
  obtain ⟨a', rfl⟩ : ∃ a' : Nat, a = a' := ⟨a.toNat, by omega⟩
  obtain ⟨n', rfl⟩ : ∃ n' : Nat, n = n' := ⟨n.toNat, by omega⟩
  have d5 : decide ((bs.length : Int) - a' < n') = false := decide_eq_false g5
  have d4' : decide (bs.length < a') = false := decide_eq_false (by omega)
  have d1' : decide (n' < 1) = false := decide_eq_false (by omega)
  have d2' : decide (512 < n') = false := decide_eq_false (by omega)
  obtain ⟨i0, hi0, hs0⟩ := info_u8''
  obtain ⟨A', hx, hy⟩ := RN.mid (P := Try.prog) 27 5 .u8 Try.underlying27 hi0 hs0 A bs.length c a' (a' + n') (by omega) (by omega) hcap
  rw [show a' + n' - a' = n' by omega] at hx hy
  rw [show (((a' + n' : Nat)) : Int) = (a' : Int) + n' by omega] at hx
  have hlp : ((bs.drop a').take n').length = n' := by rw [List.length_take, List.length_drop]; omega
  have hbp : ∀ x ∈ (bs.drop a').take n', x < 256 := fun x hx => HBB.out x (List.mem_of_mem_drop (List.mem_of_mem_take hx))
  have hrp := hy _ bs rfl HR1.out
  rw [Int.toNat_natCast, Int.toNat_natCast] at hch
  obtain ⟨p, hp⟩ : ∃ p, (bs.drop a').take n' = p := ⟨_, rfl⟩
  rw [hp] at hlp hbp hrp hch
  have hsl := sumN_len p
  have hse := fun w => neq_32 w (sumN p) q hsl HQ.out (sumN_lt p) HQ2.out
  have hn512 : n' ≤ 512 := by omega
  have hbE : Below (w.alloc (.cells C 38)).heap.size (w.alloc (.cells C 38)) ((w.alloc (.cells C 38)).alloc (.cells #[] 5)) := (Below.refl _ _).alloc (Nat.le_refl _) _
  have hE : OwnN .u8 5 ((w.alloc (.cells C 38)).alloc (.cells #[] 5)) (w.alloc (.cells C 38)).heap.size (.slice (some ⟨(w.alloc (.cells C 38)).heap.size, 0, none⟩) 0 0) [] := emptyV 5 1 _
  have j32 := (hbE.cell (p := ⟨w.heap.size, 32, none⟩) (by show w.heap.size < _; rw [HSZ.out]; omega)).trans k32
  have j33 := (hbE.cell (p := ⟨w.heap.size, 33, none⟩) (by show w.heap.size < _; rw [HSZ.out]; omega)).trans k33
  have hsE : w.heap.size + 1 ≤ ((w.alloc (.cells C 38)).alloc (.cells #[] 5)).heap.size := by simp
  have hE' : OwnN .u8 5 ((w.alloc (.cells C 38)).alloc (.cells #[] 5)) (w.heap.size + 1) (.slice (some ⟨w.heap.size + 1, 0, none⟩) 0 0) [] := by rw [HSZ.out] at hE; exact hE
  have HE := Lib.hid hE'
  have HBE := Lib.hid hbE
  have HRP := Lib.hid (hrp.below hbE)
  have HBP := Lib.hid hbp
  have HLP := Lib.hid hlp
  have HSE := Lib.hid hse
  have HCH := Lib.hid hch
  have hadd : (a' : Int) + n' ≤ 9223372036854775807 := by omega
  have i1 : (0 : Int) ≤ (a' : Int) := by omega
  have i2 : (a' : Int) ≤ (a' : Int) + n' := by omega
  have i3 : (a' : Int) + n' ≤ (bs.length : Int) := by omega
  clear hrp hbp hlp hse hch hp hsl hy g1 g2 g3 g4 g5 hi0 hs0 hbE hE hE'
  go_enter Try.func17, Try.ntmps17
  go_wp2_with (at_builtin; refine append_NN (w.heap.size + 1) rfl (.tmp 35) (.tmp 44) 27 5 .u8 1 rfl Try.underlying27 info_u8 (by decide) _ [] p A' (c - a') rfl (by rw [HLP.out]; rfl) HE.out HRP.out hsE (by rw [HLP.out]; simp; omega) ?_; intro v2 w2 ho2 hg2 _)
  rw [List.nil_append] at ho2
  have hb2 : Below (w.alloc (.cells C 38)).heap.size (w.alloc (.cells C 38)) w2 := HBE.out.grown hg2 (by simp) (fun j ej => by have := own_base HE.out j ej; rw [HSZ.out]; exact this)
  obtain ⟨A2, c2, e2, hc2, hr2⟩ := ho2.reads
  subst e2
  have hbw : Below w.heap.size w w2 := HB.out.trans (hb2.mono (by rw [HSZ.out]; omega))
  have hg2' := (hb2.block w.heap.size (by rw [HSZ.out]; omega)).trans HG.out
  have hT2 : w2.rangeAt w.heap.size 0 (q.map (encN .u8)) := fun j v hv => (cell_move (a := ⟨w.heap.size, 0 + j, none⟩) (hb2.block w.heap.size (by rw [HSZ.out]; omega))).trans (HRG.out j v hv)
  have HR2 := Lib.hid hr2
  have HBW := Lib.hid hbw
  have hs2 := hbw.size
  have hgl := (Array.getElem?_eq_some_iff.1 hg2').1
  have hinf : (Try.prog.info? 36).map (·.size) = some (q.map (encN .u8)).length := by rw [List.length_map, HQ.out]; exact info32
  have HINF := Lib.hid hinf
  clear ho2 hbw hg2' hr2 hinf k32 k33 j32 j33 hb2 hg2
  obtain ⟨Y, hY⟩ : ∃ Y, (q.map (encN .u8)) = Y := ⟨_, rfl⟩
  obtain ⟨X, hX⟩ : ∃ X, ((sumN p).map (encN .u8)).toArray = X := ⟨_, rfl⟩
  rw [hY] at hT2 HINF
  have HNQ : Hid (∀ w, Sem.run Try.prog (binOp BinOp.neq 36 (.agg X) (.agg Y.toArray)) w = Result.ok (.bool (!decide (sumN p = q))) w) := Lib.hid (fun w => by rw [← hX, ← hY]; exact HSE.out w)
  have HSUM : Hid (∀ W, Below w2.heap.size w2 W → Calls Try.prog 23 #[.slice A2 p.length c2] W fun e w' => e = .returned (.agg X) ∧ Below W.heap.size W w') := Lib.hid (fun W hB => by rw [← hX, ← shaA_eq]; exact refSum_c A2 c2 p W (HR2.out.below hB) HBP.out (by rw [HLP.out]; omega))
  clear hX hY
  go_wp2_with fail
  refine wp_region_late [3] (fun w' => w'.rangeAt w.heap.size 0 Y) (by kernel_rfl) ((World.rangeAt_drew _ _ _ _).2 hT2) (fun hT => ?_)
  refine WL.take (i := 0) (v := ?_) rfl (by kernel_rfl) (by kernel_rfl) (by kernel_rfl) (by kernel_rfl) (fun _ _ _ h => h) (Or.inl ⟨by rfl, ?_⟩) (by assumption) ?_
  rotate_left 1
  · (intro w' hSw; (try (replace hSw := hSw (by decide); dsimp only at hSw)); go_split_ands; go_simp; try with_reducible rfl)
  simp only [Act.put, List.getElem_toArray, List.getElem_cons_zero, List.getElem_cons_succ, List.setIfInBounds_toArray, List.set_cons_zero, List.set_cons_succ]
  refine WL.take (i := 2) (v := ?_) rfl (by kernel_rfl) (by kernel_rfl) (by kernel_rfl) (by kernel_rfl) (fun _ _ _ h => h) (Or.inl ⟨by rfl, ?_⟩) (by assumption) ?_
  rotate_left 1
  · (intro w' hSw; (try (replace hSw := hSw (by decide); dsimp only at hSw)); go_split_ands; go_simp; try with_reducible rfl)
  simp only [Act.put, List.getElem_toArray, List.getElem_cons_zero, List.getElem_cons_succ, List.setIfInBounds_toArray, List.set_cons_zero, List.set_cons_succ]
  refine WL.take (i := 3) (v := .agg Y.toArray) rfl (by kernel_rfl) (by kernel_rfl) (by kernel_rfl) (by kernel_rfl) (fun _ _ _ h => h) (yieldsIf_load_mid (by rfl) 36 (.tmp 48) (by rfl) w.heap.size 0 (by rfl) Y _ (fun w' h => h (by decide)) Try.underlying36 (by rfl) HINF.out) hT ?_
  simp only [Act.put, List.getElem_toArray, List.getElem_cons_zero, List.getElem_cons_succ, List.setIfInBounds_toArray, List.set_cons_zero, List.set_cons_succ]
  refine WL.one (i := 1) (by kernel_rfl) rfl (fun K hK => ?_)
  go_simp
  go_at_call 23
  refine (HSUM.out _ (Below.refl _ _).drew).mono ?_
  rintro e w3 ⟨rfl, hb3⟩
  replace hb3 : Below w2.heap.size w2 w3 := ⟨hb3.os, hb3.tape, hb3.output, hb3.size, hb3.block⟩
  have HR3 := Lib.hid (HR2.out.below hb3)
  have HB3 := Lib.hid (HBW.out.trans (hb3.mono hs2))
  have hT3 : w3.rangeAt w.heap.size 0 Y := fun j v hv => (cell_move (a := ⟨w.heap.size, 0 + j, none⟩) (hb3.block w.heap.size hgl)).trans (hT2 j v hv)
  clear hb3 hT hT2
  go_simp
  refine hK.out _ _ (fun _ => hT3) ?_
  clear hK K
  have hnq := HNQ.out
  by_cases hsq : sumN p = q
  · have hdq : decide (sumN p = q) = true := decide_eq_true hsq
    have hch := HCH.out
    rw [if_pos hsq] at hch
    have HCH2 := Lib.hid hch
    rw [hdq] at hnq
    clear hdq hsq hch
    refine WL.late (i := 4) (by kernel_rfl) rfl (by kernel_rfl) (fun K hK => ?_)
    go_simp
    refine hK.out _ _ ?_
    clear hK K
    refine WL.done (by kernel_rfl) ?_ _
    go_wp2_with fail
    go_ret2
    exact ⟨A2, c2, by rw [HCH2.out]; rfl, by rw [HCH2.out]; exact hc2, by rw [HCH2.out]; exact HR3.out, HB3.out⟩
  · have hdq : decide (sumN p = q) = false := decide_eq_false hsq
    have hch := HCH.out
    rw [if_neg hsq] at hch
    have HCH2 := Lib.hid hch
    rw [hdq] at hnq
    clear hdq hsq hch
    refine WL.late (i := 4) (by kernel_rfl) rfl (by kernel_rfl) (fun K hK => ?_)
    go_simp
    refine hK.out _ _ ?_
    clear hK K
    refine WL.done (by kernel_rfl) ?_ _
    go_wp2_with fail
    go_ret2
    exact ⟨none, 0, by rw [HCH2.out]; rfl, by rw [HCH2.out]; simp, by rw [HCH2.out]; exact RN.nil _ _, HB3.out⟩
end Go.Proofs.Ytejmklfhcealnaa.F
