/- Texts that part in four bytes at most have unlike check sums, walked. -/
import Derived.Test.YtdmkfdealedgoaaDl1
set_option linter.unusedVariables false
set_option linter.unusedSimpArgs false
namespace Go.Proofs.Ytdmkfdealedgoaa.F
open Go.RowKit Go.Proofs.YtdmkfdealedgoaaW.PrintWords

theorem OwnN.form0 {k : IntKind} {e : TypeId} {W : World} {base : Nat} {v : Value} {xs : List Nat} (h : OwnN k e W base v xs) (hx : 0 < xs.length) :
    ∃ g cap, v = .slice (some ⟨g, 0, none⟩) xs.length cap ∧ base ≤ g ∧ g < W.heap.size ∧ xs.length ≤ cap := by
  rcases h.2 with ⟨_, h0⟩ | ⟨g, cap, cur, e2, hb, hh, hc, _⟩
  · omega
  · exact ⟨g, cap, e2, hb, (Array.getElem?_eq_some_iff.1 hh).1, hc⟩
theorem mask_get? (n k : Nat) (ds : List Nat) (h : k + ds.length ≤ n) (j : Nat) (hj : j < n) : (mask n k ds)[j]? = some (if k ≤ j ∧ j < k + ds.length then ds.getD (j - k) 0 else 0) := by
  unfold mask
  by_cases h1 : j < k
  · rw [if_neg (by omega), List.getElem?_append_left (by simp; omega), List.getElem?_append_left (by simpa using h1)]
    simp [h1]
  · by_cases h2 : j < k + ds.length
    · rw [if_pos ⟨by omega, h2⟩, List.getElem?_append_left (by simp; omega), List.getElem?_append_right (by simp; omega)]
      simp only [List.length_replicate, List.getD_eq_getElem?_getD]
      rw [List.getElem?_eq_getElem (by omega)]
      rfl
    · rw [if_neg (by omega), List.getElem?_append_right (by simp; omega), List.getElem?_eq_getElem (by simp; omega)]
      simp
theorem mask_get (n k : Nat) (ds : List Nat) (h : k + ds.length ≤ n) (j : Nat) (hj : j < (mask n k ds).length) : (mask n k ds)[j] = if k ≤ j ∧ j < k + ds.length then ds.getD (j - k) 0 else 0 := by
  have h1 := mask_get? n k ds h j (by rw [mask_len n k ds h] at hj; exact hj)
  rw [List.getElem?_eq_getElem hj] at h1
  exact Option.some.inj h1
/-- The text behind the first i changes. -/
def qAt (p bs : List Nat) (k i : Nat) : List Nat := List.zipWith (· ^^^ ·) p (mask p.length k (bs.take i))
theorem qAt_len (p bs : List Nat) (k i : Nat) (hb : i ≤ bs.length) (h : k + i ≤ p.length) : (qAt p bs k i).length = p.length := by
  unfold qAt
  rw [List.length_zipWith, mask_len _ _ _ (by rw [List.length_take]; omega)]
  simp
theorem qAt_get (p bs : List Nat) (k i : Nat) (hb : i ≤ bs.length) (h : k + i ≤ p.length) (j : Nat) (hj : j < p.length) :
    (qAt p bs k i)[j]'(by rw [qAt_len p bs k i hb h]; exact hj) = p[j] ^^^ (if k ≤ j ∧ j < k + i then bs.getD (j - k) 0 else 0) := by
  have hl : (bs.take i).length = i := by rw [List.length_take]; omega
  unfold qAt
  rw [List.getElem_zipWith, mask_get _ _ _ (by omega), hl]
  congr 1
  by_cases h1 : k ≤ j ∧ j < k + i
  · rw [if_pos h1, if_pos h1]
    simp only [List.getD_eq_getElem?_getD, List.getElem?_take]
    rw [if_pos (by omega)]
  · rw [if_neg h1, if_neg h1]
theorem qAt_zero (p bs : List Nat) (k : Nat) (h : k ≤ p.length) : qAt p bs k 0 = p := by
  apply List.ext_getElem
  · exact qAt_len p bs k 0 (by omega) (by omega)
  · intro j h1 h2
    rw [qAt_get p bs k 0 (by omega) (by omega) j h2, if_neg (by omega), Nat.xor_zero]
theorem qAt_step (p bs : List Nat) (k i : Nat) (hb : i < bs.length) (h : k + i < p.length) : (qAt p bs k i).set (k + i) (p[k + i] ^^^ bs[i]) = qAt p bs k (i + 1) := by
  apply List.ext_getElem
  · rw [List.length_set, qAt_len _ _ _ _ (by omega) (by omega), qAt_len _ _ _ _ (by omega) (by omega)]
  · intro j h1 h2
    rw [List.length_set, qAt_len _ _ _ _ (by omega) (by omega)] at h1
    rw [qAt_get p bs k (i + 1) (by omega) (by omega) j h1, List.getElem_set]
    by_cases e : k + i = j
    · subst e
      rw [if_pos rfl, if_pos (by omega), show k + i - k = i by omega, List.getD_eq_getElem?_getD, List.getElem?_eq_getElem hb]
      rfl
    · rw [if_neg e, qAt_get p bs k i (by omega) (by omega) j h1]
      congr 1
      by_cases h3 : k ≤ j ∧ j < k + i
      · rw [if_pos h3, if_pos (by omega)]
      · rw [if_neg h3, if_neg (by omega)]
theorem qAt_at (p bs : List Nat) (k i : Nat) (hb : i < bs.length) (h : k + i < p.length) : (qAt p bs k i)[k + i]'(by rw [qAt_len p bs k i (by omega) (by omega)]; exact h) = p[k + i] := by
  rw [qAt_get p bs k i (by omega) (by omega) _ h, if_neg (by omega), Nat.xor_zero]
theorem qAt_lt {p bs : List Nat} (hp : ∀ x ∈ p, x < 256) (hbs : ∀ x ∈ bs, x < 256) (k i : Nat) (hb : i ≤ bs.length) (h : k + i ≤ p.length) : ∀ x ∈ qAt p bs k i, x < 256 := by
  intro x hx
  obtain ⟨j, hj, rfl⟩ := List.mem_iff_getElem.1 hx
  rw [qAt_len _ _ _ _ hb h] at hj
  rw [qAt_get p bs k i hb h j hj]
  refine Nat.xor_lt_two_pow (n := 8) (hp _ (List.getElem_mem _)) ?_
  split
  · exact getD_lt (by omega) hbs _
  · omega
/-- Is there a change among the first i? -/
def nz (bs : List Nat) (i : Nat) : Bool := (bs.take i).any (· != 0)
theorem nz_step (bs : List Nat) (i : Nat) (hb : i < bs.length) : nz bs (i + 1) = (nz bs i || (bs[i] != 0)) := by
  unfold nz
  rw [List.take_succ_eq_append_getElem hb, List.any_append]
  simp
theorem crc_apart (p bs : List Nat) (k i : Nat) (hb : i ≤ bs.length) (h4 : i ≤ 4) (h : k + i ≤ p.length) (hp : ∀ x ∈ p, x < 256) (hbs : ∀ x ∈ bs, x < 256) :
    (((crcMore 0 p : Nat) : Int) != ((crcMore 0 (qAt p bs k i) : Nat) : Int)) = nz bs i := by
  have hl : (bs.take i).length = i := by rw [List.length_take]; omega
  have ha := apart_crc p (bs.take i) k 0 (by omega) (by omega) (by omega) hp (fun x hx => hbs x (List.mem_of_mem_take hx))
  unfold qAt nz
  by_cases hz : ∀ x ∈ bs.take i, x = 0
  · rw [← ha.2 hz]
    have : (bs.take i).any (· != 0) = false := by
      rw [List.any_eq_false]
      intro x hx
      simp [hz x hx]
    rw [this]
    simp
  · have hne := fun e => hz (ha.1 e)
    have : (bs.take i).any (· != 0) = true := by
      rw [List.any_eq_true]
      simp only [Classical.not_forall] at hz
      obtain ⟨x, hx, hx0⟩ := hz
      exact ⟨x, hx, by simpa using hx0⟩
    rw [this]
    rw [bne_iff_ne]
    intro e
    exact hne (by exact_mod_cast e)

theorem Apart_nil (A : Option Addr) (c at_ : Nat) (b0 b1 b2 b3 : Nat) (w : World) :
    Calls Try.prog 6 #[.slice A 0 c, .int .u16 at_, .agg #[.int .u8 b0, .int .u8 b1, .int .u8 b2, .int .u8 b3]] w fun e w' => e = .returned (.bool true) ∧ Below w.heap.size w w' := by
  go_enter Try.func6, Try.ntmps6
  go_wp2_with fail
  refine (live_c _).mono ?_
  rintro e w1 ⟨rfl, hb1⟩
  have HB1 := Lib.hid (((Below.refl w.heap.size w).alloc (Nat.le_refl _) (.cells #[.int .u8 (b0 : Int), .int .u8 (b1 : Int), .int .u8 (b2 : Int), .int .u8 (b3 : Int)] 33)).trans (hb1.mono (by simp)))
  clear hb1
  go_wp2_with fail
  go_ret
  exact ⟨rfl, HB1.out⟩
set_option maxHeartbeats 1000000 in
theorem Apart_some (A : Option Addr) (c : Nat) (p : List Nat) (at_ : Nat) (b0 b1 b2 b3 : Nat) (w : World) (hr : RN .u8 w A p) (hp : ∀ x ∈ p, x < 256) (hn : 0 < p.length) (hl : p.length ≤ 140737488351232) (ha : at_ < 65536) (h0 : b0 < 256) (h1 : b1 < 256) (h2 : b2 < 256) (h3 : b3 < 256) :
    Calls Try.prog 6 #[.slice A p.length c, .int .u16 at_, .agg #[.int .u8 b0, .int .u8 b1, .int .u8 b2, .int .u8 b3]] w fun e w' => e = .returned (.bool true) ∧ Below w.heap.size w w' := by
  have hm := hr.max
  have d0 : ((p.length : Int) == 0) = false := beq_eq_false_iff_ne.2 (by omega)
  have hk : ((at_ : Int) % (p.length : Int)) = ((at_ % p.length : Nat) : Int) := by rw [Int.natCast_emod]
  have hkl : at_ % p.length < p.length := Nat.mod_lt _ hn
  obtain ⟨k, hkk⟩ : ∃ k, at_ % p.length = k := ⟨_, rfl⟩
  rw [hkk] at hk hkl
  obtain ⟨bs, hbs⟩ : ∃ bs, [b0, b1, b2, b3] = bs := ⟨_, rfl⟩
  have hbl : bs.length = 4 := by rw [← hbs]; rfl
  have hbb : ∀ x ∈ bs, x < 256 := by
    rw [← hbs]
    intro x hx
    simp only [List.mem_cons, List.not_mem_nil, or_false] at hx
    rcases hx with h | h | h | h <;> omega
  have hcsb : (#[.int .u8 (b0 : Int), .int .u8 (b1 : Int), .int .u8 (b2 : Int), .int .u8 (b3 : Int)] : Array Value) = tabK .u8 4 (fun i => bs.getD i 0) := by rw [← hbs]; rfl
  have hgB : (w.alloc (.cells #[.int .u8 (b0 : Int), .int .u8 (b1 : Int), .int .u8 (b2 : Int), .int .u8 (b3 : Int)] 33)).heap[w.heap.size]? = some (.cells (tabK .u8 4 (fun i => bs.getD i 0)) 33 (0, 0)) := by rw [← hcsb]; exact heap_alloc_new _ _
  have hbW0 : Below w.heap.size w (w.alloc (.cells #[.int .u8 (b0 : Int), .int .u8 (b1 : Int), .int .u8 (b2 : Int), .int .u8 (b3 : Int)] 33)) := (Below.refl _ _).alloc (Nat.le_refl _) _
  obtain ⟨W0, hW0⟩ : ∃ W0, w.alloc (.cells #[.int .u8 (b0 : Int), .int .u8 (b1 : Int), .int .u8 (b2 : Int), .int .u8 (b3 : Int)] 33) = W0 := ⟨_, rfl⟩
  have hs0 : W0.heap.size = w.heap.size + 1 := by rw [← hW0]; simp
  rw [hW0] at hgB hbW0
  have hr0 := hr.below hbW0
  have hO : OwnN .u8 5 (W0.alloc (.cells #[] 5)) W0.heap.size (.slice (some ⟨W0.heap.size, 0, none⟩) 0 0) [] := by
    have := own_lit_of (enc := encN .u8) W0 W0.heap.size 5 [] (by simp) (by simp)
    simp only [List.map_nil, List.length_nil, encs] at this
    exact this
  have hbA : Below W0.heap.size W0 (W0.alloc (.cells #[] 5)) := (Below.refl _ _).alloc (Nat.le_refl _) _
  rw [hs0] at hO
  have HRA := Lib.hid (hr0.below hbA)
  have hsA : w.heap.size + 1 ≤ (W0.alloc (.cells #[] 5)).heap.size := by simp; omega
  have hl1 : (([] : List Nat).length + p.length) * 1 ≤ 140737488355328 := by simp; omega
  have HO := Lib.hid hO
  have HR := Lib.hid hr
  have HGB := Lib.hid hgB
  have HW0 := Lib.hid hW0
  have HBW := Lib.hid hbW0
  have HBA := Lib.hid hbA
  have HL1 := Lib.hid hl1
  have HKK := Lib.hid hkk
  clear hO hr hr0 hgB hW0 hbW0 hbA hl1 hkk hbs hcsb
  go_enter Try.func6, Try.ntmps6
  go_wp2_with (first | (rw [HW0.out]) | (at_builtin; refine append_NN (w.heap.size + 1) rfl (.tmp 15) (.tmp 16) 22 5 .u8 1 rfl Try.underlying22 info_u8 (by decide) (.slice (some ⟨w.heap.size + 1, 0, none⟩) 0 0) [] p A c rfl rfl HO.out HRA.out hsA HL1.out ?_; intro v2 w2 ho2 hg2 hat2))
  rw [List.nil_append] at ho2
  obtain ⟨g, cap, rfl, hgb, hgl, hcap⟩ := ho2.form0 hn
  have hb2 := below_grown HO.out hsA hg2
  have hB2 : Below w.heap.size w w2 := HBW.out.trans ((HBA.out.trans (hb2.mono (by omega))).mono (by omega))
  have hg2B : w2.heap[w.heap.size]? = some (.cells (tabK .u8 4 (fun i => bs.getD i 0)) 33 (0, 0)) := (hb2.block _ (by omega)).trans ((HBA.out.block _ (by omega)).trans HGB.out)
  have hq0 := qAt_zero p bs k (by omega)
  have ho2' : OwnN .u8 5 w2 (w.heap.size + 1) (.slice (some ⟨g, 0, none⟩) p.length cap) (qAt p bs k 0) := by rw [hq0]; exact ho2
  have HO2 := Lib.hid ho2'
  have HB2 := Lib.hid hB2
  have HG2 := Lib.hid hg2B
  have hwb : w.heap.size + 1 ≤ g := hgb
  rw [hk]
  clear hk ho2 hg2 hat2 hb2 hB2 hg2B hq0 ho2' hs0 hsA hgl
  go_loopw [9, 10] (fun vt vi W => ∃ i : Nat, i ≤ 4 ∧ k + i ≤ p.length ∧ vi = .int .i64 i ∧ vt = .bool (nz bs i) ∧ OwnN .u8 5 W (w.heap.size + 1) (.slice (some ⟨g, 0, none⟩) p.length cap) (qAt p bs k i) ∧ W.heap[w.heap.size]? = some (.cells (tabK .u8 4 (fun i => bs.getD i 0)) 33 (0, 0)) ∧ Below w.heap.size w W) (fun _ vi _ => 4 - (intOf vi).toNat)
  case atStart => exact ⟨0, by omega, by omega, rfl, rfl, HO2.out, HG2.out, HB2.out⟩
  case round =>
    obtain ⟨i, hi, hki, rfl, rfl, ho, hB, hW⟩ := hrel
    have ki : ((k : Int) + i) ≤ 9223372036854775807 := by omega
    by_cases hlt : i < 4 ∧ k + i < p.length
    · obtain ⟨hl4, hlp⟩ := hlt
      have d1 : decide ((i : Int) < 4) = true := decide_eq_true (by omega)
      have d2 : decide ((k : Int) + i < p.length) = true := decide_eq_true (by omega)
      have hql := qAt_len p bs k i (by omega) hki
      have hqa := qAt_at p bs k i (by omega) hlp
      have hqs := qAt_step p bs k i (by omega) hlp
      have hnz := nz_step bs i (by omega)
      have cb := tabK_cell hB i hl4
      have hbi : bs.getD i 0 = bs[i]'(by omega) := getD_in bs i (by omega)
      rw [hbi] at cb
      have hpx : p[k + i] < 256 := hp _ (List.getElem_mem _)
      have hbx : bs[i]'(by omega) < 256 := hbb _ (List.getElem_mem _)
      have ho' : OwnN .u8 5 wr (w.heap.size + 1) (.slice (some ⟨g, 0, none⟩) (qAt p bs k i).length cap) (qAt p bs k i) := by rw [hql]; exact ho
      have cq := ho'.cellAt (k + i) (by omega)
      rw [hqa] at cq
      have fq := ho'.frozenAt (k + i)
      have hst := fun W' (hW' : OwnN .u8 5 W' (w.heap.size + 1) (.slice (some ⟨g, 0, none⟩) (qAt p bs k i).length cap) (qAt p bs k i)) => OwnN.stored hW' (k + i) (p[k + i] ^^^ bs[i]'(by omega))
      rw [hqs, hql] at hst
      obtain ⟨x, hx⟩ : ∃ x, p[k + i] = x := ⟨_, rfl⟩
      obtain ⟨y, hy⟩ : ∃ y, bs[i]'(by omega) = y := ⟨_, rfl⟩
      rw [hx] at cq hpx hst
      rw [hy] at cb hbx hst hnz
      have hxor := u8_xor_nat x y hpx hbx
      have hxl : x ^^^ y < 256 := Nat.xor_lt_two_pow (n := 8) hpx hbx
      obtain ⟨z, hz⟩ : ∃ z, x ^^^ y = z := ⟨_, rfl⟩
      rw [hz] at hxor hst hxl
      obtain ⟨t0, ht0⟩ : ∃ t0, nz bs i = t0 := ⟨_, rfl⟩
      rw [ht0] at hnz ⊢
      have HST := Lib.hid hst
      have HO' := Lib.hid ho
      have HBq := Lib.hid hB
      have HNZ := Lib.hid hnz
      have hbne : w.heap.size ≠ g := by omega
      have HNE := Lib.hid hbne
      clear hql hqa hqs hnz hbi ho' ho hst hx hy hz ht0 hB hbne
      have k0 : (0 : Int) ≤ (k : Int) + i := by omega
      have k1 : (k : Int) + i < p.length := by omega
      have i0 : (0 : Int) ≤ (i : Int) := by omega
      have i1 : (i : Int) < 4 := by omega
      go_wp2_with fail
      have w1 : IntKind.i64.wrap ((k : Int) + i) = (k : Int) + i := IntWalk.i64_in _ (by omega)
      have n1 : ((k : Int) + i).toNat = k + i := by omega
      refine wp_region_still_tail 11 (by kernel_rfl) (by kernel_rfl) ?_
      simp only [List.take_succ_cons, List.take_zero, List.drop_succ_cons, List.drop_zero]
      still_step
      still_step
      still_step
      still_step
      still_step
      still_step
      still_step
      still_step
      still_step
      still_step
      still_step
      refine wpStill_nil ?_
      change wpList _ _ _ _ _ wr.drew
      clear w1 n1
      have hst2 := HST.out wr HO'.out
      have hB3 : (wr.setCell ⟨g, k + i, none⟩ (.int .u8 (z : Nat))).heap[w.heap.size]? = some (.cells (tabK .u8 4 (fun i => bs.getD i 0)) 33 (0, 0)) := by rw [heap_setCell_other _ _ _ _ HNE.out]; exact HBq.out
      have cb3 : (wr.setCell ⟨g, k + i, none⟩ (.int .u8 (z : Nat))).cell? ⟨w.heap.size, i, none⟩ = some (.int .u8 (y : Nat)) := by
        refine (cell_move (a := ⟨w.heap.size, i, none⟩) ?_).trans cb
        rw [heap_setCell_other _ _ _ _ HNE.out]
      have HST2 := Lib.hid hst2
      have HB3 := Lib.hid hB3
      have fq' : wr.drew.frozen? ⟨g, k + i, none⟩ = false := fq
      have cq' : wr.drew.cell? ⟨g, k + i, none⟩ = some (.int .u8 (x : Nat)) := cq
      clear hst2 hB3 fq cq hxor cb
      have hgw : w.heap.size ≤ g := by omega
      cases t0 with
      | true =>
        clear cb3
        go_wp2_with fail
        exact ⟨⟨i + 1, by omega, by omega, by go_num, by rw [HNZ.out]; rfl, HST2.out.move (fun _ _ => rfl), HB3.out, (hW.setCell hgw _).drew⟩, by simp [intOf]; omega⟩
      | false =>
        by_cases hy0 : y = 0
        · have hb : ((y : Int) != 0) = false := by simp [hy0]
          have HY0 := Lib.hid hy0
          clear hy0
          go_wp2_with fail
          exact ⟨⟨i + 1, by omega, by omega, by go_num, by rw [HNZ.out, HY0.out]; rfl, HST2.out.move (fun _ _ => rfl), HB3.out, (hW.setCell hgw _).drew⟩, by simp [intOf]; omega⟩
        · have hb : ((y : Int) != 0) = true := by simp [hy0]
          have hyn : (y != 0) = true := by simp [hy0]
          have HY0 := Lib.hid hyn
          clear hy0 hyn
          go_wp2_with fail
          exact ⟨⟨i + 1, by omega, by omega, by go_num, by rw [HNZ.out, HY0.out]; rfl, HST2.out.move (fun _ _ => rfl), HB3.out, (hW.setCell hgw _).drew⟩, by simp [intOf]; omega⟩
    · have hcr := crc_apart p bs k i (by omega) hi hki hp hbb
      have hqb := qAt_lt hp hbb k i (by omega) hki
      have hql := qAt_len p bs k i (by omega) hki
      obtain ⟨qs, hqs⟩ : ∃ qs, qAt p bs k i = qs := ⟨_, rfl⟩
      obtain ⟨t0, ht0⟩ : ∃ t0, nz bs i = t0 := ⟨_, rfl⟩
      rw [hqs] at ho hcr hqb hql
      rw [ht0] at hcr ⊢
      have ho' : OwnN .u8 5 wr (w.heap.size + 1) (.slice (some ⟨g, 0, none⟩) qs.length cap) qs := by rw [hql]; exact ho
      obtain ⟨A5, c5, e5, _, _, _, hr5⟩ := ho'.form
      simp only [Value.slice.injEq] at e5
      have e5a : A5 = some ⟨g, 0, none⟩ := e5.1.symm
      clear e5
      have hc1 := fun W hr => Crc_c A c p W hr hp
      have hc2 := fun W hr => Crc_c (some ⟨g, 0, none⟩) cap qs W hr hqb
      rw [hql] at hc2
      obtain ⟨u, hu⟩ : ∃ u, crcMore 0 p = u := ⟨_, rfl⟩
      obtain ⟨v, hv⟩ : ∃ v, crcMore 0 qs = v := ⟨_, rfl⟩
      rw [hu] at hc1 hcr
      rw [hv] at hc2 hcr
      have hr5' : RN .u8 wr (some ⟨g, 0, none⟩) qs := by rw [← e5a]; exact hr5
      have HC1 := Lib.hid hc1
      have HC2 := Lib.hid hc2
      have HCR := Lib.hid hcr
      have HR5 := Lib.hid hr5'
      have HWB := Lib.hid hW
      have HRP := Lib.hid (HR.out.below hW)
      clear hc1 hc2 hcr hr5 hr5' hW ho ho' hB e5a hu hv hqs ht0 hqb hql
      have d12 : (decide ((i : Int) < 4) && decide ((k : Int) + i < p.length)) = false := by
        simp only [Bool.and_eq_false_iff, decide_eq_false_iff_not]
        omega
      by_cases hl4 : i < 4
      · have d1 : decide ((i : Int) < 4) = true := decide_eq_true (by omega)
        have d2 : decide ((k : Int) + i < p.length) = false := decide_eq_false (by omega)
        clear d12
        go_wp2_with fail
        refine (live_c _).mono ?_
        rintro e w6 ⟨rfl, hb6⟩
        have HRP6 := Lib.hid (HRP.out.below hb6)
        have HR6 := Lib.hid (HR5.out.below hb6)
        have HB6 := Lib.hid (HWB.out.trans (hb6.mono HWB.out.size))
        clear hb6
        go_wp2_with fail
        refine (HC1.out _ HRP6.out).mono ?_
        rintro e w7 ⟨rfl, rfl⟩
        go_wp2_with fail
        refine (HC2.out _ HR6.out).mono ?_
        rintro e w7 ⟨rfl, rfl⟩
        go_wp2_with fail
        go_ret
        exact ⟨by rw [HCR.out]; cases t0 <;> rfl, HB6.out⟩
      · have d1 : decide ((i : Int) < 4) = false := decide_eq_false (by omega)
        clear d12
        go_wp2_with fail
        refine (live_c _).mono ?_
        rintro e w6 ⟨rfl, hb6⟩
        have HRP6 := Lib.hid (HRP.out.below hb6)
        have HR6 := Lib.hid (HR5.out.below hb6)
        have HB6 := Lib.hid (HWB.out.trans (hb6.mono HWB.out.size))
        clear hb6
        go_wp2_with fail
        refine (HC1.out _ HRP6.out).mono ?_
        rintro e w7 ⟨rfl, rfl⟩
        go_wp2_with fail
        refine (HC2.out _ HR6.out).mono ?_
        rintro e w7 ⟨rfl, rfl⟩
        go_wp2_with fail
        go_ret
        exact ⟨by rw [HCR.out]; cases t0 <;> rfl, HB6.out⟩
theorem DigestApart_walk (A : Option Addr) (c : Nat) (p : List Nat) (at_ : Nat) (b0 b1 b2 b3 : Nat) (w : World) (hr : RN .u8 w A p) (hp : ∀ x ∈ p, x < 256) (hl : p.length ≤ 140737488351232) (ha : at_ < 65536) (h0 : b0 < 256) (h1 : b1 < 256) (h2 : b2 < 256) (h3 : b3 < 256) :
    Calls Try.prog 6 #[.slice A p.length c, .int .u16 at_, .agg #[.int .u8 b0, .int .u8 b1, .int .u8 b2, .int .u8 b3]] w fun e w' => e = .returned (.bool true) ∧ Below w.heap.size w w' := by
  rcases Nat.eq_zero_or_pos p.length with h | h
  · rw [h]; exact Apart_nil A c at_ b0 b1 b2 b3 w
  · exact Apart_some A c p at_ b0 b1 b2 b3 w hr hp h hl ha h0 h1 h2 h3
end Go.Proofs.Ytdmkfdealedgoaa.F
