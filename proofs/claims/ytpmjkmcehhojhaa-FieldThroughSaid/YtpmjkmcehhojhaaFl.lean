/- What must be whatever is asked (live), walked. -/
import Derived.Test.YtpmjkmcehhojhaaFv
namespace Go.Proofs.Ytpmjkmcehhojhaa.F
open Go.RowKit Go.Proofs.YtpmjkmcehhojhaaW.PrintWords

/-- The world with a literal row laid. -/
theorem lit_reads (k : IntKind) (e : TypeId) (w : World) (xs : List Nat) (hm : xs.length ≤ 9223372036854775807) :
    RN k (w.alloc (.cells (xs.map (encN k)).toArray e)) (some ⟨w.heap.size, 0, none⟩) xs := by
  have h : OwnN k e (w.alloc (.cells (xs.map (encN k)).toArray e)) w.heap.size (.slice (some ⟨w.heap.size, 0, none⟩) xs.length xs.length) xs := own_lit_of (enc := encN k) w w.heap.size e xs (Nat.le_refl _) hm
  obtain ⟨A, c, he, _, hr⟩ := h.reads
  injection he with h1 h2 h3
  rw [h1]
  exact hr

theorem live_c (w : World) : Calls Try.prog 9 #[] w fun e w' => e = .returned (.bool true) ∧ Below w.heap.size w w' := by
  have hw12 : weights [1, 2] 1 = [1, 0] := by decide +kernel
  have HW := Lib.hid hw12
  clear hw12
  have hg : gm 2 128 = 29 := by decide +kernel
  have HG := Lib.hid hg
  clear hg
  have he : geval [3, 1] 2 = 1 := by decide +kernel
  have HE := Lib.hid he
  clear he
  go_enter Try.func9, Try.ntmps9
  go_wp2_with fail
  refine (Weights_c _ _ [1, 2] 1 _ (lit_reads .u8 5 w [1, 2] (by decide)) (by decide) (by decide) (by decide) (by decide)).mono ?_
  rintro e w1 ⟨v, rfl, ho, hb⟩
  have hB1 : Below w.heap.size w w1 := (Below.refl w.heap.size w).alloc (Nat.le_refl _) _ |>.trans (hb.mono (by simp))
  rw [HW.out] at ho
  obtain ⟨A, c, rfl, hc, hr⟩ := ho.reads
  clear hb ho
  obtain ⟨ad, e, c0⟩ := hr.at 0 (by decide)
  subst e
  obtain ⟨bd, e, c1⟩ := hr.at 1 (by decide)
  obtain rfl : ad = bd := Option.some.inj e
  clear e
  replace c0 : w1.cell? ad = some (.int .u8 1) := c0
  replace c1 : w1.cell? ⟨ad.block, ad.off + 1, none⟩ = some (.int .u8 0) := c1
  go_wp2_with fail
  refine (Mul_c 2 128 (by decide) (by decide) _).mono ?_
  rintro e w2 ⟨rfl, n2, rfl⟩
  rw [HG.out]
  go_wp2_with fail
  refine (Eval_c _ _ [3, 1] 2 _ (lit_reads .u8 5 _ [3, 1] (by decide)) (by decide) (by decide)).mono ?_
  rintro e w3 ⟨rfl, n3, rfl⟩
  rw [HE.out]
  go_wp2_with fail
  go_ret
  exact ⟨rfl, pw_below_drewN ((pw_below_drewN hB1 _).alloc (by have := hB1.size; simpa using this) _) _⟩

/-- Bool by cases, and the end of a law: all its limbs are true. -/
theorem FieldPowers_walk (a : Nat) (m : Int) (n k : Nat) (ha : a < 256) (hn : n < 65536) (hk : k < 65536) (w : World) :
    Calls Try.prog 3 #[.int .u8 a, .int .i64 m, .int .u16 n, .int .u16 k] w fun e w' => e = .returned (.bool true) ∧ Below w.heap.size w w' := by
  have hg : gpow a (n + k) = gm (gpow a n) (gpow a k) := gpow_add ha n k
  have HG := Lib.hid hg
  clear hg
  go_enter Try.func3, Try.ntmps3
  go_wp2_with fail
  refine (live_c _).mono ?_
  rintro e w1 ⟨rfl, hB⟩
  go_wp2_with fail
  refine (Pow_c a m ha _).mono ?_
  rintro e w2 ⟨rfl, n2, rfl⟩
  go_wp2_with fail
  refine (refPow_c a m ha _).mono ?_
  rintro e w3 ⟨rfl, rfl⟩
  go_wp2_with fail
  refine (Pow_c a n ha _).mono ?_
  rintro e w4 ⟨rfl, n4, rfl⟩
  go_wp2_with fail
  refine (Pow_c a k ha _).mono ?_
  rintro e w5 ⟨rfl, n5, rfl⟩
  go_wp2_with fail
  refine (Mul_c _ _ (gpow_lt ha _) (gpow_lt ha _) _).mono ?_
  rintro e w6 ⟨rfl, n6, rfl⟩
  rw [← HG.out]
  go_wp2_with fail
  refine (Pow_c a ((n : Int) + k) ha _).mono ?_
  rintro e w7 ⟨rfl, n7, rfl⟩
  rw [show ((n : Int) + k).toNat = n + k by omega]
  go_wp2_with fail
  go_ret
  exact ⟨rfl, pw_below_drewN hB _⟩

theorem FieldMuls_walk (a b : Nat) (ha : a < 256) (hb : b < 256) (w : World) :
    Calls Try.prog 5 #[.int .u8 a, .int .u8 b] w fun e w' => e = .returned (.bool true) ∧ Below w.heap.size w w' := by
  by_cases h0 : b = 0
  · subst h0
    have hq : gm a (ginv 0) = 0 := by show gm a 0 = 0; exact gm_zero_right a
    have HQ := Lib.hid hq
    clear hq
    go_enter Try.func5, Try.ntmps5
    go_wp2_with fail
    refine (Div_c a 0 ha hb _).mono ?_
    rintro e w1 ⟨rfl, n1, rfl⟩
    go_wp2_with fail
    refine (refInv_c 0 hb _).mono ?_
    rintro e w2 ⟨rfl, rfl⟩
    go_wp2_with fail
    refine (refMul_c a _ ha (ginv_lt hb) _).mono ?_
    rintro e w2 ⟨rfl, rfl⟩
    rw [HQ.out]
    go_wp2_with fail
    refine (live_c _).mono ?_
    rintro e w3 ⟨rfl, hB⟩
    go_wp2_with fail
    refine (Mul_c a 0 ha hb _).mono ?_
    rintro e w4 ⟨rfl, n4, rfl⟩
    go_wp2_with fail
    refine (refMul_c a 0 ha hb _).mono ?_
    rintro e w2 ⟨rfl, rfl⟩
    go_wp2_with fail
    refine (Inv_c a ha _).mono ?_
    rintro e w4 ⟨rfl, n5, rfl⟩
    go_wp2_with fail
    refine (refInv_c a ha _).mono ?_
    rintro e w2 ⟨rfl, rfl⟩
    go_wp2_with fail
    go_ret
    exact ⟨rfl, (pw_below_drewN (Below.refl w.heap.size w) n1).trans (pw_below_drewN hB _)⟩
  · have hb1 : ((b : Int) == 0) = false := beq_eq_false_iff_ne.2 (by omega)
    have hb2 : ((b : Int) != 0) = true := by simp; omega
    have H0 := Lib.hid h0
    go_enter Try.func5, Try.ntmps5
    go_wp2_with fail
    refine (Div_c a b ha hb _).mono ?_
    rintro e w1 ⟨rfl, n1, rfl⟩
    rw [if_neg h0, if_neg h0]
    clear h0
    go_wp2_with fail
    refine (refInv_c b hb _).mono ?_
    rintro e w2 ⟨rfl, rfl⟩
    go_wp2_with fail
    refine (refMul_c a _ ha (ginv_lt hb) _).mono ?_
    rintro e w2 ⟨rfl, rfl⟩
    go_wp2_with fail
    refine (live_c _).mono ?_
    rintro e w3 ⟨rfl, hB⟩
    go_wp2_with fail
    refine (Mul_c a b ha hb _).mono ?_
    rintro e w4 ⟨rfl, n4, rfl⟩
    go_wp2_with fail
    refine (refMul_c a b ha hb _).mono ?_
    rintro e w2 ⟨rfl, rfl⟩
    go_wp2_with fail
    refine (Inv_c a ha _).mono ?_
    rintro e w4 ⟨rfl, n5, rfl⟩
    go_wp2_with fail
    refine (refInv_c a ha _).mono ?_
    rintro e w2 ⟨rfl, rfl⟩
    go_wp2_with fail
    go_ret
    exact ⟨rfl, (pw_below_drewN (Below.refl w.heap.size w) n1).trans (pw_below_drewN hB _)⟩

theorem FieldLaws_walk (a b c : Nat) (ha : a < 256) (hb : b < 256) (hc : c < 256) (w : World) :
    Calls Try.prog 6 #[.int .u8 a, .int .u8 b, .int .u8 c] w fun e w' => e = .returned (.bool true) ∧ Below w.heap.size w w' := by
  have lab := gm_lt ha b
  have lba := gm_lt hb a
  have lbc := gm_lt hb c
  have lac := gm_lt ha c
  have lx := xor_lt hb hc
  have e1 := Lib.hid (gm_comm ha hb)
  have e2 := Lib.hid (gm_assoc ha hb hc)
  have e3 := Lib.hid (gm_xor_right a b c)
  have e4 := Lib.hid (gm_one ha)
  have x1 := u8_xor_nat b c hb hc
  have x2 := u8_xor_nat (gm a b) (gm a c) lab lac
  have e5 : b ≠ 0 → gm (gm a b) (ginv b) = a := fun h => by rw [← gm_assoc ha hb (ginv_lt hb), gm_ginv hb h, gm_one ha]
  have E5 := Lib.hid e5
  clear e5
  obtain ⟨q, hq⟩ : ∃ q, (if b = 0 then 0 else gm (gm a b) (ginv b)) = q := ⟨_, rfl⟩
  obtain ⟨er, her⟩ : ∃ er : Nat, (if b = 0 then 2 else 0) = er := ⟨_, rfl⟩
  have HQ := Lib.hid hq
  have HER := Lib.hid her
  go_enter Try.func6, Try.ntmps6
  go_wp2_with fail
  refine (Mul_c a b ha hb _).mono ?_
  rintro e w1 ⟨rfl, n1, rfl⟩
  go_wp2_with fail
  refine (Div_c _ _ lab hb _).mono ?_
  rintro e w1 ⟨rfl, n2, rfl⟩
  rw [hq, her]
  clear hq her
  go_wp2_with fail
  refine (live_c _).mono ?_
  rintro e w3 ⟨rfl, hB⟩
  go_wp2_with fail
  refine (Mul_c a b ha hb _).mono ?_
  rintro e w1 ⟨rfl, n3, rfl⟩
  go_wp2_with fail
  refine (Mul_c b a hb ha _).mono ?_
  rintro e w1 ⟨rfl, n4, rfl⟩
  rw [← e1.out]
  go_wp2_with fail
  refine (Mul_c b c hb hc _).mono ?_
  rintro e w1 ⟨rfl, n5, rfl⟩
  go_wp2_with fail
  refine (Mul_c a (gm b c) ha lbc _).mono ?_
  rintro e w1 ⟨rfl, n6, rfl⟩
  rw [e2.out]
  go_wp2_with fail
  refine (Mul_c a b ha hb _).mono ?_
  rintro e w1 ⟨rfl, n7, rfl⟩
  go_wp2_with fail
  refine (Mul_c (gm a b) c lab hc _).mono ?_
  rintro e w1 ⟨rfl, n8, rfl⟩
  go_wp2_with fail
  refine (Mul_c a (b ^^^ c) ha lx _).mono ?_
  rintro e w1 ⟨rfl, n9, rfl⟩
  rw [e3.out]
  go_wp2_with fail
  refine (Mul_c a b ha hb _).mono ?_
  rintro e w1 ⟨rfl, n10, rfl⟩
  go_wp2_with fail
  refine (Mul_c a c ha hc _).mono ?_
  rintro e w1 ⟨rfl, n11, rfl⟩
  go_wp2_with fail
  refine (Mul_c a 1 ha (by omega) _).mono ?_
  rintro e w1 ⟨rfl, n12, rfl⟩
  rw [e4.out]
  have hfin : ∀ n, Below w.heap.size w (w3.drewN n) := fun n => (pw_below_drewN (Below.refl w.heap.size w) _).trans (pw_below_drewN hB _)
  by_cases h0 : b = 0
  · have hb1 : ((b : Int) == 0) = true := by simp [h0]
    clear h0
    go_wp2_with fail
    go_ret
    exact ⟨rfl, hfin _⟩
  · have hb1 : ((b : Int) == 0) = false := beq_eq_false_iff_ne.2 (by omega)
    have q1 := HQ.out
    rw [if_neg h0, E5.out h0] at q1
    have q2 := HER.out
    rw [if_neg h0] at q2
    subst q1 q2
    clear h0
    go_wp2_with fail
    go_ret
    exact ⟨rfl, hfin _⟩

theorem FieldEvals_walk (A B : Option Addr) (c d : Nat) (p q : List Nat) (x : Nat) (w : World) (hp : RN .u8 w A p) (hq : RN .u8 w B q) (lp : ∀ c ∈ p, c < 256) (lq : ∀ c ∈ q, c < 256) (hx : x < 256) :
    Calls Try.prog 7 #[.slice A p.length c, .slice B q.length d, .int .u8 x] w fun e w' => e = .returned (.bool true) ∧ Below w.heap.size w w' := by
  go_enter Try.func7, Try.ntmps7
  go_wp2_with fail
  refine (live_c _).mono ?_
  rintro e w1 ⟨rfl, hB⟩
  have rp := hp.below hB
  have rq := hq.below hB
  go_wp2_with fail
  refine (Eval_c _ _ p x _ rp lp hx).mono ?_
  rintro e w2 ⟨rfl, n2, rfl⟩
  go_wp2_with fail
  refine (refEval_c _ _ p x _ (rp.drewN _) lp hx).mono ?_
  rintro e w3 ⟨rfl, rfl⟩
  go_wp2_with fail
  refine (Dot_c _ _ _ _ p q _ (rp.drewN _) (rq.drewN _) lp lq).mono ?_
  rintro e w4 ⟨rfl, n4, rfl⟩
  go_wp2_with fail
  refine (refDot_c _ _ _ _ p q _ (rp.drewN _) (rq.drewN _) lp lq).mono ?_
  rintro e w4 ⟨rfl, n5, rfl⟩
  go_wp2_with fail
  go_ret
  exact ⟨rfl, pw_below_drewN hB _⟩
end Go.Proofs.Ytpmjkmcehhojhaa.F
