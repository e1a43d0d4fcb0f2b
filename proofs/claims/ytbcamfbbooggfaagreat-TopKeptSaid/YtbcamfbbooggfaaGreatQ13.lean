/- Part 13 of the proof: TEl, TM3. -/
import Derived.Test.YtbcamfbbooggfaaGreatQ12
import Derived.Test.YtbcamfbbooggfaaGreatQ11
import Derived.Stop.BytesEq
import Derived.Deep.MidRow
import Derived.Test.YtbcamfbbooggfaaGreatQ07
import Derived.Test.YtbcamfbbooggfaaGreatQ06
import Derived.Test.YtbcamfbbooggfaaGreatQ04
import Derived.Test.YtbcamfbbooggfaaGreatQ08
import Derived.Deep.RegionHeldLaw
import Derived.StillTailTactics
import Derived.Deep.AppendLies

section
/- Runs are claimed. -/
set_option linter.unusedVariables false
set_option linter.unusedSimpArgs false
namespace Go.Proofs.YtbcamfbbooggfaaGreat.F
open Go.RowKit Go.Proofs.YtbcamfbbooggfaaGreatW.PrintWords

/-- What a Claim answers, and what is left. -/
def claimF (f t : Nat) (l : List Rn) (a n : Int) : Int × List Rn :=
  if withinB f t a n = false then (2, l) else
  match l.findIdx? (fun r => decide ((r.1 : Int) ≤ a) && decide (a + n ≤ (r.1 : Int) + r.2)) with
  | none => (10, l)
  | some i => (0, cutL l i a.toNat n.toNat)
def ErrAns (base b f t : Nat) (x : Int × List Rn) (w : World) (e : Ending) (w' : World) : Prop := e = .returned (.int .i64 x.1) ∧ EM w' base b f t x.2 ∧ Gr (fun k => k = b) w w'
theorem within_yes {f t : Nat} {a n : Int} (h : withinB f t a n = true) (ht : t ≤ 4096) : ∃ x m : Nat, a = x ∧ n = m ∧ 0 < m ∧ f ≤ x ∧ x + m ≤ t := by
  have h := of_decide_eq_true h
  exact ⟨a.toNat, n.toNat, by omega, by omega, by omega, by omega, by omega⟩
set_option maxRecDepth 20000 in
set_option maxHeartbeats 8000000 in
theorem Claim_c (base b f t : Nat) (l : List Rn) (a n : Int) (w : World) (hm : EM w base b f t l) (hbs : base ≤ w.heap.size) (hn : ∀ r ∈ l, r.1 + r.2 ≤ 4096) (hl : l.length ≤ 10000) (ht : t ≤ 4096) (ha : -9223372036854775808 ≤ a ∧ a ≤ 9223372036854775807) :
    Calls Tryz.prog 45 #[.pointer (some ⟨b, 0, none⟩), .agg #[.int .i64 a, .int .i64 n]] w (ErrAns base b f t (claimF f t l a n) w) := by
  have hb := hm.lt
  have hbox : Below w.heap.size w (w.alloc (.cells #[.int .i64 a, .int .i64 n] 51)) := (Below.refl _ _).alloc (Nat.le_refl _) _
  have hgn : (w.alloc (.cells #[.int .i64 a, .int .i64 n] 51)).heap[w.heap.size]? = some (.cells #[.int .i64 a, .int .i64 n] 51 (0, 0)) := heap_alloc_new w _
  have hmb := hm.below hbox
  obtain ⟨W1, hW1⟩ : ∃ W1, w.alloc (.cells #[.int .i64 a, .int .i64 n] 51) = W1 := ⟨_, rfl⟩
  rw [hW1] at hmb hbox hgn
  have hs1 : W1.heap.size = w.heap.size + 1 := by rw [← hW1]; simp
  have k0 : W1.cell? ⟨w.heap.size, 0, none⟩ = some (.int .i64 a) := by rw [cell_of_row _ _ _ _ _ _ hgn]; rfl
  have k1 : W1.cell? ⟨w.heap.size, 1, none⟩ = some (.int .i64 n) := by rw [cell_of_row _ _ _ _ _ _ hgn]; rfl
  have hem1 := hmb
  obtain ⟨v, hme, ho, hnil⟩ := hmb
  have hwi := within_c b f t v a n W1 hme (by omega) ha
  have HWI := Lib.hid hwi
  have HW1 := Lib.hid hW1
  have HEM1 := Lib.hid hem1
  have HBX := Lib.hid hbox
  cases hwb : withinB f t a n with
  | false =>
    have he : claimF f t l a n = (2, l) := if_pos hwb
    rw [he]
    rw [hwb] at HWI
    clear hm hme ho hnil hgn hW1 hem1 hbox hwi hn hwb he
    go_enter Tryz.func45, Tryz.ntmps45
    go_wp2_with (rw [HW1.out])
    refine HWI.out.mono ?_
    rintro e w2 ⟨rfl, hb2⟩
    have HB2 := Lib.hid hb2
    clear hb2
    go_wp2_with fail
    go_ret
    exact ⟨rfl, HEM1.out.below HB2.out, Gr.of_below _ (HBX.out.trans (HB2.out.mono (by omega)))⟩
  | true =>
    obtain ⟨x, m, rfl, rfl, hm0, hfx, hxt⟩ := within_yes hwb ht
    rw [hwb] at HWI
    obtain ⟨A, c, ev, hc, hr⟩ := ho.reads
    subst ev
    have hg27 : ∀ args W, Sem.run Tryz.prog (callFunc 82 args) W = .ok (.enter 82 args) W := fun _ _ => by kernel_rfl
    have c2 := hme.c2
    have hidx := fun (W2 : World) (hb2 : Below W1.heap.size W1 W2) => IndexFunc_c A c 82 #[.pointer (some ⟨w.heap.size, 0, none⟩)] (fun r => decide ((r.1 : Int) ≤ x) && decide ((x : Int) + m ≤ (r.1 : Int) + r.2)) l W2 (hr.below hb2) hn (claim_pred w.heap.size x m W2 ((hb2.cell (p := ⟨w.heap.size, 0, none⟩) (by show w.heap.size < _; omega)).trans k0) ((hb2.cell (p := ⟨w.heap.size, 1, none⟩) (by show w.heap.size < _; omega)).trans k1) (by omega)) (fun _ _ => by kernel_rfl)
    have HIDX := Lib.hid hidx
    have HN := Lib.hid hn
    have hcase := idxR_find (fun r => decide ((r.1 : Int) ≤ x) && decide ((x : Int) + m ≤ (r.1 : Int) + r.2)) l
    obtain ⟨q, hq⟩ : ∃ q, idxR (fun r => decide ((r.1 : Int) ≤ x) && decide ((x : Int) + m ≤ (r.1 : Int) + r.2)) l = q := ⟨_, rfl⟩
    rw [hq] at HIDX hcase
    rcases hcase with ⟨rfl, hf⟩ | ⟨i, hi, rfl, hf, hp⟩
    · have he : claimF f t l x m = (10, l) := by unfold claimF; rw [if_neg (by rw [hwb]; simp), hf]
      rw [he]
      clear hm hme ho hnil hgn hW1 hem1 hbox hwi hn hwb he hr hidx hq hf
      go_enter Tryz.func45, Tryz.ntmps45
      go_wp2_with (rw [HW1.out])
      refine HWI.out.mono ?_
      rintro e w2 ⟨rfl, hb2⟩
      have c22 : w2.cell? ⟨b, 2, none⟩ = some (.slice A l.length c) := (hb2.cell (p := ⟨b, 2, none⟩) (by show b < _; omega)).trans c2
      have hcall := HIDX.out w2 hb2
      have HCALL := Lib.hid hcall
      have HB2 := Lib.hid hb2
      have hs2 := hb2.size
      clear hb2 hcall c2 k0 k1
      go_wp2_with fail
      refine HCALL.out.mono ?_
      rintro e w3 ⟨rfl, hb3⟩
      have HB3 := Lib.hid (HB2.out.trans (hb3.mono hs2))
      clear hb3
      go_wp2_with fail
      go_ret
      exact ⟨rfl, HEM1.out.below HB3.out, Gr.of_below _ (HBX.out.trans (HB3.out.mono (by omega)))⟩
    · have he : claimF f t l x m = (0, cutL l i x m) := by
        unfold claimF
        rw [if_neg (by rw [hwb]; simp), hf]
        simp
      rw [he]
      have hgd : l.getD i (0, 0) = l[i] := by simp [List.getD_eq_getElem?_getD, hi]
      simp only [Bool.and_eq_true, decide_eq_true_eq] at hp
      obtain ⟨hp1, hp2⟩ := hp
      have hcut := fun W (h : EM W base b f t l) hb => cut_c base b f t l i x m W h hb hi (by rw [hgd]; omega) (by rw [hgd]; omega) (fun r hr => by have := hn r hr; omega) hl
      have HCUT := Lib.hid hcut
      have i2 : decide ((i : Int) < 0) = false := decide_eq_false (by omega)
      clear hm hme ho hnil hgn hW1 hem1 hbox hwi hn hwb he hr hidx hq hf hcut hgd hp1 hp2
      go_enter Tryz.func45, Tryz.ntmps45
      go_wp2_with (rw [HW1.out])
      refine HWI.out.mono ?_
      rintro e w2 ⟨rfl, hb2⟩
      have c22 : w2.cell? ⟨b, 2, none⟩ = some (.slice A l.length c) := (hb2.cell (p := ⟨b, 2, none⟩) (by show b < _; omega)).trans c2
      have hcall := HIDX.out w2 hb2
      have HCALL := Lib.hid hcall
      have HB2 := Lib.hid hb2
      have hs2 := hb2.size
      clear hb2 hcall
      go_wp2_with fail
      refine HCALL.out.mono ?_
      rintro e w3 ⟨rfl, hb3⟩
      have hb13 := HB2.out.trans (hb3.mono hs2)
      have k03 : w3.cell? ⟨w.heap.size, 0, none⟩ = some (.int .i64 (x : Nat)) := (hb13.cell (p := ⟨w.heap.size, 0, none⟩) (by show w.heap.size < _; omega)).trans k0
      have k13 : w3.cell? ⟨w.heap.size, 1, none⟩ = some (.int .i64 (m : Nat)) := (hb13.cell (p := ⟨w.heap.size, 1, none⟩) (by show w.heap.size < _; omega)).trans k1
      have hs3 := hb13.size
      have HEM3 := Lib.hid (HEM1.out.below hb13)
      have HB3 := Lib.hid (HBX.out.trans (hb13.mono (by omega)))
      clear hb13 hb3 c2 k0 k1 c22
      go_wp2_with fail
      refine (HCUT.out w3 HEM3.out (by omega)).mono ?_
      rintro e w4 ⟨rfl, hem4, hgr4⟩
      have HEM4 := Lib.hid (hem4.lower (base' := base) (by omega))
      have HGR4 := Lib.hid ((Gr.of_below (fun k => k = b) HB3.out).trans hgr4 (fun _ _ h => h))
      clear hem4 hgr4
      go_wp2_with fail
      go_ret
      exact ⟨rfl, HEM4.out, HGR4.out⟩
end Go.Proofs.YtbcamfbbooggfaaGreat.F
end

section
/- A slot's bytes, by both. -/
set_option linter.unusedVariables false
set_option linter.unusedSimpArgs false
namespace Go.Proofs.YtbcamfbbooggfaaGreat.F
open Go.RowKit Go.Proofs.YtbcamfbbooggfaaGreatW.PrintWords
attribute [local go_sem ↓] Go.wp_at_zero Go.wp_at_succ

/-- 'xs[lo:hi]'. -/
theorem RN.mid {P : Program} (t e : TypeId) (k : IntKind) {i : TypeInfo} (ht : P.underlying t = some (.slice e)) (hi : P.info? e = some i) (hsz : i.size = 1) (A : Option Addr) (n c lo hh : Nat) (h1 : lo ≤ hh) (h2 : hh ≤ n) (h3 : n ≤ c) :
    ∃ A' : Option Addr, (∀ W : World, (Instr.slice t (.slice A n c) (some (.int .i64 (lo : Int))) (some (.int .i64 (hh : Int))) none).run P W = .ok (.slice A' (hh - lo) (c - lo)) W) ∧
      ∀ (w : World) (xs : List Nat), xs.length = n → RN k w A xs → RN k w A' ((xs.drop lo).take (hh - lo)) := by
  have hel : P.elem t = e := by simp [Program.elem, ht]
  have hu : P.underlying t = some (.slice (P.elem t)) := by rw [hel]; exact ht
  refine ⟨if c = lo then A else A.map (·.add lo), fun W => ?_, fun w xs hx h => ?_⟩
  · rw [run_slice_lh W t A n c hu .i64 .i64 (lo : Int) (hh : Int) (Int.natCast_nonneg _) (by omega) (by omega), hel]
    simp [sizeOf, typeInfo, hi, hsz, sliced, Result.andThen]
  · have ht := (Kd.reads_of_C (enc := encN k) (d := 0) (h1 := fun _ => rfl) (h.take hh (by omega)))
    have hr := ht.drop_ (c := c) lo (by rw [List.length_take]; omega) (by rw [List.length_take]; omega)
    rw [← List.drop_take]
    unfold RN
    rw [List.length_drop]
    exact Kd.C_of_reads hr
theorem info_u8'' : ∃ i, Tryz.prog.info? 5 = some i ∧ i.size = 1 := by
  obtain ⟨i, hi, hz⟩ := Option.map_eq_some_iff.1 info_u8
  simp only [Prod.mk.injEq] at hz
  exact ⟨i, hi, hz.2.1⟩
theorem bytes_cells (q : List Nat) (h : ∀ x ∈ q, x < 256) : (q.map (encN .u8)).toArray = ((q.map UInt8.ofNat).map Extern.Stop.cell).toArray := by
  congr 1
  rw [List.map_map]
  apply List.map_congr_left
  intro x hx
  show encN .u8 x = Extern.Stop.cell (UInt8.ofNat x)
  unfold encN Extern.Stop.cell
  rw [show (UInt8.ofNat x).toNat = x by rw [UInt8.toNat_ofNat']; exact Nat.mod_eq_of_lt (h x hx)]
  rfl
theorem ofNat_inj : ∀ (p q : List Nat), (∀ x ∈ p, x < 256) → (∀ x ∈ q, x < 256) → p.map UInt8.ofNat = q.map UInt8.ofNat → p = q
  | [], [], _, _, _ => rfl
  | [], y :: q, _, _, h => by simp at h
  | x :: p, [], _, _, h => by simp at h
  | x :: p, y :: q, hp, hq, h => by
    rw [List.map_cons, List.map_cons] at h
    injection h with h1 h2
    have h3 := congrArg UInt8.toNat h1
    rw [UInt8.toNat_ofNat', UInt8.toNat_ofNat', Nat.mod_eq_of_lt (hp x (by simp)), Nat.mod_eq_of_lt (hq y (by simp))] at h3
    rw [h3, ofNat_inj p q (fun z hz => hp z (by simp [hz])) (fun z hz => hq z (by simp [hz])) h2]
theorem neq_32 (w : World) (p q : List Nat) (hp : p.length = 32) (hq : q.length = 32) (hp2 : ∀ x ∈ p, x < 256) (hq2 : ∀ x ∈ q, x < 256) :
    Sem.run Tryz.prog (binOp BinOp.neq 61 (.agg (p.map (encN .u8)).toArray) (.agg (q.map (encN .u8)).toArray)) w = Result.ok (.bool (!decide (p = q))) w := by
  rw [bytes_cells p hp2, bytes_cells q hq2, run_neq_struct, run_equalIn_bytes w 9998 61 5 32 Tryz.underlying61 Tryz.underlying5 (fun _ => by kernel_rfl) _ _ (by simp [hp]) (by simp [hq])]
  show Result.ok (Value.bool _) w = Result.ok (Value.bool _) w
  congr 3
  rw [Bool.eq_iff_iff]
  simp only [beq_iff_eq, decide_eq_true_eq]
  exact ⟨ofNat_inj p q hp2 hq2, fun h => by rw [h]⟩
/-- A slot by value. -/
def slV (q : List Nat) (a n : Int) : Array Value := (q.map (encN .u8) ++ [Value.int .i64 a, Value.int .i64 n]).toArray
/-- A slot's bytes, or why there are none. -/
def chunkA (bs q : List Nat) (a n : Int) : Int × List Nat :=
  if n < 1 ∨ 512 < n ∨ a < 0 then (2, []) else if (bs.length : Int) < a ∨ (bs.length : Int) - a < n then (3, []) else
  if sumN ((bs.drop a.toNat).take n.toNat) = q then (0, (bs.drop a.toNat).take n.toNat) else (13, [])
def ChunkAns (r : Int × List Nat) (w : World) (e : Ending) (w' : World) : Prop :=
  ∃ A c, e = .returned (.tuple #[.slice A r.2.length c, .int .i64 r.1]) ∧ r.2.length ≤ c ∧ RN .u8 w' A r.2 ∧ Below w.heap.size w w'
theorem slV_32 (q : List Nat) (a n : Int) (h : q.length = 32) : (slV q a n)[32]? = some (.int .i64 a) := by
  unfold slV
  rw [List.getElem?_toArray, List.getElem?_append_right (by simp [h])]
  simp [h]
theorem slV_33 (q : List Nat) (a n : Int) (h : q.length = 32) : (slV q a n)[33]? = some (.int .i64 n) := by
  unfold slV
  rw [List.getElem?_toArray, List.getElem?_append_right (by simp [h])]
  simp [h]
theorem slV_range {W : World} {g : Nat} {t : TypeId} {z : Nat × Nat} {q : List Nat} {a n : Int} (hg : W.heap[g]? = some (.cells (slV q a n) t z)) : W.rangeAt g 0 (q.map (encN .u8)) := fun j v hv => by
  rw [cell_of_row _ _ _ _ _ _ hg, Nat.zero_add]
  unfold slV
  rw [List.getElem?_toArray, List.getElem?_append_left (List.getElem?_eq_some_iff.1 hv).1]
  exact hv
set_option maxRecDepth 20000 in
set_option maxHeartbeats 4000000 in
theorem ChunkF_c (A : Option Addr) (c : Nat) (bs q : List Nat) (a n : Int) (w : World) (hr : RN .u8 w A bs) (hb : ∀ x ∈ bs, x < 256) (hcap : bs.length ≤ c) (hq : q.length = 32) (hq2 : ∀ x ∈ q, x < 256) (ha : -9223372036854775808 ≤ a ∧ a ≤ 9223372036854775807) (hn : -9223372036854775808 ≤ n ∧ n ≤ 9223372036854775807) :
    Calls Tryz.prog 51 #[.slice A bs.length c, .agg (slV q a n)] w (ChunkAns (chunkA bs q a n) w) := by
  have hm := hr.max
  have hbx : Below w.heap.size w (w.alloc (.cells (slV q a n) 117)) := (Below.refl _ _).alloc (Nat.le_refl _) _
  have hgx : (w.alloc (.cells (slV q a n) 117)).heap[w.heap.size]? = some (.cells (slV q a n) 117 (0, 0)) := heap_alloc_new _ _
  have k32 : (w.alloc (.cells (slV q a n) 117)).cell? ⟨w.heap.size, 32, none⟩ = some (.int .i64 a) := by rw [cell_of_row _ _ _ _ _ _ hgx]; exact slV_32 q a n hq
  have k33 : (w.alloc (.cells (slV q a n) 117)).cell? ⟨w.heap.size, 33, none⟩ = some (.int .i64 n) := by rw [cell_of_row _ _ _ _ _ _ hgx]; exact slV_33 q a n hq
  have hrg := slV_range hgx
  have hr1 := hr.below hbx
  have hsz : (w.alloc (.cells (slV q a n) 117)).heap.size = w.heap.size + 1 := by simp
  have hch : chunkA bs q a n = if n < 1 ∨ 512 < n ∨ a < 0 then (2, []) else if (bs.length : Int) < a ∨ (bs.length : Int) - a < n then (3, []) else
    if sumN ((bs.drop a.toNat).take n.toNat) = q then (0, (bs.drop a.toNat).take n.toNat) else (13, []) := rfl
  obtain ⟨R, hR⟩ : ∃ R, chunkA bs q a n = R := ⟨_, rfl⟩
  rw [hR] at hch ⊢
  have herr : ∀ E : Int, ChunkAns (E, []) w (.returned (.tuple #[.slice none 0 0, .int .i64 E])) (w.alloc (.cells (slV q a n) 117)) := fun E => ⟨none, 0, rfl, by simp, RN.nil _ _, hbx⟩
  obtain ⟨C, hC⟩ : ∃ C, slV q a n = C := ⟨_, rfl⟩
  rw [hC] at hbx hgx k32 k33 hrg hr1 hsz herr ⊢
  have HERR := Lib.hid herr
  have HB := Lib.hid hbx
  have HG := Lib.hid hgx
  have HRG := Lib.hid hrg
  have HR1 := Lib.hid hr1
  have HSZ := Lib.hid hsz
  have HQ := Lib.hid hq
  have HQ2 := Lib.hid hq2
  have HBB := Lib.hid hb
  clear herr hbx hgx hrg hr1 hsz hq hq2 hb hR hr hC
  by_cases g1 : n < 1
  · have d1 : decide (n < 1) = true := decide_eq_true g1
    rw [if_pos (.inl g1)] at hch
    subst hch
    go_enter Tryz.func51, Tryz.ntmps51
    go_wp2_with fail
    go_ret2
    exact HERR.out 2
  have d1 : decide (n < 1) = false := decide_eq_false g1
  by_cases g2 : 512 < n
  · have d2 : decide (512 < n) = true := decide_eq_true g2
    rw [if_pos (.inr (.inl g2))] at hch
    subst hch
    go_enter Tryz.func51, Tryz.ntmps51
    go_wp2_with fail
    go_ret2
    exact HERR.out 2
  have d2 : decide (512 < n) = false := decide_eq_false g2
  by_cases g3 : a < 0
  · have d3 : decide (a < 0) = true := decide_eq_true g3
    rw [if_pos (.inr (.inr g3))] at hch
    subst hch
    go_enter Tryz.func51, Tryz.ntmps51
    go_wp2_with fail
    go_ret2
    exact HERR.out 2
  have d3 : decide (a < 0) = false := decide_eq_false g3
  rw [if_neg (by omega)] at hch
  by_cases g4 : (bs.length : Int) < a
  · have d4 : decide ((bs.length : Int) < a) = true := decide_eq_true g4
    rw [if_pos (.inl g4)] at hch
    subst hch
    go_enter Tryz.func51, Tryz.ntmps51
    go_wp2_with fail
    go_ret2
    exact HERR.out 3
  have d4 : decide ((bs.length : Int) < a) = false := decide_eq_false g4
  by_cases g5 : (bs.length : Int) - a < n
  · have d5 : decide ((bs.length : Int) - a < n) = true := decide_eq_true g5
    rw [if_pos (.inr g5)] at hch
    subst hch
    go_enter Tryz.func51, Tryz.ntmps51
    go_wp2_with fail
    go_ret2
    exact HERR.out 3
  rw [if_neg (by omega)] at hch
  obtain ⟨a', rfl⟩ : ∃ a' : Nat, a = a' := ⟨a.toNat, by omega⟩
  obtain ⟨n', rfl⟩ : ∃ n' : Nat, n = n' := ⟨n.toNat, by omega⟩
  have d5 : decide ((bs.length : Int) - a' < n') = false := decide_eq_false g5
  have d4' : decide (bs.length < a') = false := decide_eq_false (by omega)
  have d1' : decide (n' < 1) = false := decide_eq_false (by omega)
  have d2' : decide (512 < n') = false := decide_eq_false (by omega)
  obtain ⟨i0, hi0, hs0⟩ := info_u8''
  obtain ⟨A', hx, hy⟩ := RN.mid (P := Tryz.prog) 25 5 .u8 Tryz.underlying25 hi0 hs0 A bs.length c a' (a' + n') (by omega) (by omega) hcap
  rw [show a' + n' - a' = n' by omega] at hx hy
  rw [show (((a' + n' : Nat)) : Int) = (a' : Int) + n' by omega] at hx
  have hlp : ((bs.drop a').take n').length = n' := by rw [List.length_take, List.length_drop]; omega
  have hbp : ∀ x ∈ (bs.drop a').take n', x < 256 := fun x hx => HBB.out x (List.mem_of_mem_drop (List.mem_of_mem_take hx))
  have hrp := hy _ bs rfl HR1.out
  rw [Int.toNat_natCast, Int.toNat_natCast] at hch
  obtain ⟨p, hp⟩ : ∃ p, (bs.drop a').take n' = p := ⟨_, rfl⟩
  rw [hp] at hlp hbp hrp hch
  have hsl := sumN_len p
  have hse := fun w => neq_32 w (sumN p) q hsl HQ.out (sumN_lt p) HQ2.out
  have hn512 : n' ≤ 512 := by omega
  have hcn : p.length ≤ c - a' := by omega
  have HRP := Lib.hid hrp
  have HBP := Lib.hid hbp
  have HLP := Lib.hid hlp
  have HSE := Lib.hid hse
  have HCH := Lib.hid hch
  have hadd : (a' : Int) + n' ≤ 9223372036854775807 := by omega
  have i1 : (0 : Int) ≤ (a' : Int) := by omega
  have i2 : (a' : Int) ≤ (a' : Int) + n' := by omega
  have i3 : (a' : Int) + n' ≤ (bs.length : Int) := by omega
  clear hrp hbp hlp hse hch hp hsl hy g1 g2 g3 g4 g5 hi0 hs0
  go_enter Tryz.func51, Tryz.ntmps51
  go_wp2_with fail
  have hcl := CloneB_c A' (c - a') p _ HRP.out (by have := HLP.out; omega) hcn
  rw [HLP.out] at hcl
  refine hcl.mono ?_
  rintro e w2 ⟨v2, rfl, ho2, hb2⟩
  obtain ⟨A2, c2, e2, hc2, hr2⟩ := ho2.reads
  subst e2
  have hbw : Below w.heap.size w w2 := HB.out.trans (hb2.mono (by rw [HSZ.out]; omega))
  have hg2' := (hb2.block w.heap.size (by rw [HSZ.out]; omega)).trans HG.out
  have hT2 : w2.rangeAt w.heap.size 0 (q.map (encN .u8)) := fun j v hv => (cell_move (a := ⟨w.heap.size, 0 + j, none⟩) (hb2.block w.heap.size (by rw [HSZ.out]; omega))).trans (HRG.out j v hv)
  have HR2 := Lib.hid hr2
  have HBW := Lib.hid hbw
  have hs2 := hbw.size
  have hgl := (Array.getElem?_eq_some_iff.1 hg2').1
  have hinf : (Tryz.prog.info? 61).map (·.size) = some (q.map (encN .u8)).length := by rw [List.length_map, HQ.out]; exact info32
  have HINF := Lib.hid hinf
  clear ho2 hbw hg2' hr2 hinf k32 k33 hcl hb2
  obtain ⟨Y, hY⟩ : ∃ Y, (q.map (encN .u8)) = Y := ⟨_, rfl⟩
  obtain ⟨X, hX⟩ : ∃ X, ((sumN p).map (encN .u8)).toArray = X := ⟨_, rfl⟩
  rw [hY] at hT2 HINF
  have HNQ : Hid (∀ w, Sem.run Tryz.prog (binOp BinOp.neq 61 (.agg X) (.agg Y.toArray)) w = Result.ok (.bool (!decide (sumN p = q))) w) := Lib.hid (fun w => by rw [← hX, ← hY]; exact HSE.out w)
  have HSUM : Hid (∀ W, Below w2.heap.size w2 W → Calls Tryz.prog 15 #[.slice A2 p.length c2] W fun e w' => e = .returned (.agg X) ∧ Below W.heap.size W w') := Lib.hid (fun W hB => by rw [← hX, ← shaA_eq]; exact digSum_c A2 c2 p W (HR2.out.below hB) HBP.out (by rw [HLP.out]; omega))
  clear hX hY
  go_wp2_with fail
  refine wp_region_late [3] (fun w' => w'.rangeAt w.heap.size 0 Y) (by kernel_rfl) ((World.rangeAt_drew _ _ _ _).2 hT2) (fun hT => ?_)
  refine WL.take (i := 0) (v := ?_) rfl (by kernel_rfl) (by kernel_rfl) (by kernel_rfl) (by kernel_rfl) (fun _ _ _ h => h) (Or.inl ⟨by rfl, ?_⟩) (by assumption) ?_
  rotate_left 1
  · (intro w' hSw; (try (replace hSw := hSw (by decide); dsimp only at hSw)); go_split_ands; go_simp; try with_reducible rfl)
  simp only [Act.put, List.getElem_toArray, List.getElem_cons_zero, List.getElem_cons_succ, List.setIfInBounds_toArray, List.set_cons_zero, List.set_cons_succ]
  refine WL.take (i := 2) (v := ?_) rfl (by kernel_rfl) (by kernel_rfl) (by kernel_rfl) (by kernel_rfl) (fun _ _ _ h => h) (Or.inl ⟨by rfl, ?_⟩) (by assumption) ?_
  rotate_left 1
  · (intro w' hSw; (try (replace hSw := hSw (by decide); dsimp only at hSw)); go_split_ands; go_simp; try with_reducible rfl)
  simp only [Act.put, List.getElem_toArray, List.getElem_cons_zero, List.getElem_cons_succ, List.setIfInBounds_toArray, List.set_cons_zero, List.set_cons_succ]
  refine WL.take (i := 3) (v := .agg Y.toArray) rfl (by kernel_rfl) (by kernel_rfl) (by kernel_rfl) (by kernel_rfl) (fun _ _ _ h => h) (yieldsIf_load_mid (by rfl) 61 (.tmp 49) (by rfl) w.heap.size 0 (by rfl) Y _ (fun w' h => h (by decide)) Tryz.underlying61 (by rfl) HINF.out) hT ?_
  simp only [Act.put, List.getElem_toArray, List.getElem_cons_zero, List.getElem_cons_succ, List.setIfInBounds_toArray, List.set_cons_zero, List.set_cons_succ]
  refine WL.one (i := 1) (by kernel_rfl) rfl (fun K hK => ?_)
  go_simp
  go_at_call 15
  refine (HSUM.out _ (Below.refl _ _).drew).mono ?_
  rintro e w3 ⟨rfl, hb3⟩
  replace hb3 : Below w2.heap.size w2 w3 := ⟨hb3.os, hb3.tape, hb3.output, hb3.size, hb3.block⟩
  have HR3 := Lib.hid (HR2.out.below hb3)
  have HB3 := Lib.hid (HBW.out.trans (hb3.mono hs2))
  have hT3 : w3.rangeAt w.heap.size 0 Y := fun j v hv => (cell_move (a := ⟨w.heap.size, 0 + j, none⟩) (hb3.block w.heap.size hgl)).trans (hT2 j v hv)
  clear hb3 hT hT2
  go_simp
  refine hK.out _ _ (fun _ => hT3) ?_
  clear hK K
  have hnq := HNQ.out
  by_cases hsq : sumN p = q
  · have hdq : decide (sumN p = q) = true := decide_eq_true hsq
    have hch := HCH.out
    rw [if_pos hsq] at hch
    have HCH2 := Lib.hid hch
    rw [hdq] at hnq
    clear hdq hsq hch
    refine WL.late (i := 4) (by kernel_rfl) rfl (by kernel_rfl) (fun K hK => ?_)
    go_simp
    refine hK.out _ _ ?_
    clear hK K
    refine WL.done (by kernel_rfl) ?_ _
    go_wp2_with fail
    go_ret2
    exact ⟨A2, c2, by rw [HCH2.out]; rfl, by rw [HCH2.out]; exact hc2, by rw [HCH2.out]; exact HR3.out, HB3.out⟩
  · have hdq : decide (sumN p = q) = false := decide_eq_false hsq
    have hch := HCH.out
    rw [if_neg hsq] at hch
    have HCH2 := Lib.hid hch
    rw [hdq] at hnq
    clear hdq hsq hch
    refine WL.late (i := 4) (by kernel_rfl) rfl (by kernel_rfl) (fun K hK => ?_)
    go_simp
    refine hK.out _ _ ?_
    clear hK K
    refine WL.done (by kernel_rfl) ?_ _
    go_wp2_with fail
    go_ret2
    exact ⟨none, 0, by rw [HCH2.out]; rfl, by rw [HCH2.out]; simp, by rw [HCH2.out]; exact RN.nil _ _, HB3.out⟩
end Go.Proofs.YtbcamfbbooggfaaGreat.F
end
