/- Repair, walked. -/
import Derived.Test.YtdmfecaejdiihaaQe
import Derived.RangeFuncWrites
import Derived.RangeFuncBox
import Derived.RangeFuncCalls
set_option linter.unusedVariables false
set_option linter.unusedSimpArgs false
namespace Go.Proofs.Ytdmfecaejdiihaa.F
open Go.RowKit Go.Proofs.YtdmfecaejdiihaaW.PrintWords Go.Shelf
attribute [local go_sem] Oper.semAt_some

set_option maxHeartbeats 4000000 in
theorem Repair_bad (A : Option Addr) (c : Nat) (sv : List SD) (k : Int) (w : World) (hmx : (sv.length : Int) ≤ 9223372036854775807) (h : k < 1 ∨ 32 < k ∨ (sv.length : Int) < k ∨ 16 < (sv.length : Int) - k) :
    Calls Try.prog 12 #[.slice A sv.length c, .int .i64 k] w (EncAns [] 2 w) := by
  have hE : EncAns [] 2 w (.returned (.tuple #[.slice none 0 0, .int .i64 2])) (w.alloc (.cells #[.int .i64 k] 3)) := ⟨none, 0, rfl, RR.nil _, (Below.refl _ _).alloc (Nat.le_refl _) _⟩
  have HE := Lib.hid hE
  clear hE
  by_cases h1 : k < 1
  · have d1 : decide (k < 1) = true := decide_eq_true h1
    go_enter Try.func12, Try.ntmps12
    go_wp2_with fail
    go_ret2
    exact HE.out
  · have d1 : decide (k < 1) = false := decide_eq_false h1
    by_cases h2 : 32 < k
    · have d2 : decide (32 < k) = true := decide_eq_true h2
      go_enter Try.func12, Try.ntmps12
      go_wp2_with fail
      go_ret2
      exact HE.out
    · have d2 : decide (32 < k) = false := decide_eq_false h2
      by_cases h3 : (sv.length : Int) < k
      · have d3 : decide ((sv.length : Int) < k) = true := decide_eq_true h3
        go_enter Try.func12, Try.ntmps12
        go_wp2_with fail
        go_ret2
        exact HE.out
      · have d3 : decide ((sv.length : Int) < k) = false := decide_eq_false h3
        have d4 : decide (16 < (sv.length : Int) - k) = true := decide_eq_true (by omega)
        have k0 : (-9223372036854775808 : Int) ≤ (sv.length : Int) - k := by omega
        have k1 : (sv.length : Int) - k ≤ (9223372036854775807 : Int) := by omega
        go_enter Try.func12, Try.ntmps12
        go_wp2_with fail
        go_ret2
        exact HE.out

def ptsOf (k : Nat) (pre : List HS) : List Nat := (pre.take k).map fun x => x.1.1 % 256
def fstOf (k : Nat) (pre : List HS) : List Value := (pre.take k).map fun x => sdv x.1.2
theorem ptsOf_snoc (k : Nat) (pre : List HS) (x : HS) (h : pre.length < k) : ptsOf k (pre ++ [x]) = ptsOf k pre ++ [x.1.1 % 256] := by
  unfold ptsOf
  rw [List.take_of_length_le (by simp; omega), List.take_of_length_le (by omega), List.map_append]
  rfl
theorem fstOf_snoc (k : Nat) (pre : List HS) (x : HS) (h : pre.length < k) : fstOf k (pre ++ [x]) = fstOf k pre ++ [sdv x.1.2] := by
  unfold fstOf
  rw [List.take_of_length_le (by simp; omega), List.take_of_length_le (by omega), List.map_append]
  rfl
theorem u8_wrap (n : Nat) : IntKind.u8.wrap (n : Int) = ((n % 256 : Nat) : Int) := by
  simp [IntKind.wrap, IntKind.signed, IntKind.bits]
structure RI (W0 : World) (N : Nat) (vp vf y1 yi y2 : Value) (PX FX : List Value) (f0 f1 f2 f3 f4 f5 f6 f7 f8 f9 f10 : Bool) (x43 x44 x45 x46 x47 x48 x49 x50 x51 : Value) (W : World) : Prop where
  a : Ch W N (N + 3) 29 5 vp y1 PX f0 f3 f4 f9 x43 x46 x47
  b : Ch W (N + 1) (N + 3) 22 29 vf y2 FX f5 f7 f8 f10 x48 x50 x51
  k : Kb N W0 W
  n : N + 3 ≤ W.heap.size
  v1 : f1 = true → x44 = yi
  v2 : f2 = true → x45 = y1
  v6 : f6 = true → x49 = y2
  d4 : f4 = true → f0 = true
  d8 : f8 = true → f5 = true
  d9b : f9 = true → f8 = true
theorem ptsOf_same (k : Nat) (pre : List HS) (x : HS) (h : k ≤ pre.length) : ptsOf k (pre ++ [x]) = ptsOf k pre := by
  unfold ptsOf
  rw [List.take_append_of_le_length h]
theorem fstOf_same (k : Nat) (pre : List HS) (x : HS) (h : k ≤ pre.length) : fstOf k (pre ++ [x]) = fstOf k pre := by
  unfold fstOf
  rw [List.take_append_of_le_length h]
theorem hsUp_idx (sv : List SD) (hsv : ∀ x ∈ sv, x.2.1 ≤ 4096) : ∀ n, n ≤ sv.length → (hsUp sv hsv n).map (fun x => x.1.1) = hidx sv n ∧ (hsUp sv hsv n).map (fun x => sdv x.1.2) = (hidx sv n).map fun j => sdv (sv.getD j (none, 0, 0))
  | 0, _ => by simp [hsUp, hidx]
  | n + 1, h => by
    obtain ⟨h1, h2⟩ := hsUp_idx sv hsv n (by omega)
    have hn : n < sv.length := by omega
    have hg : sv.getD n (none, 0, 0) = sv[n] := by simp [List.getD_eq_getElem?_getD, hn]
    have hat : hsAt sv hsv n = if sv[n].1 = none then none else some ⟨(n, sv[n]), hsv _ (List.getElem_mem hn)⟩ := by unfold hsAt; rw [dif_pos hn]
    rw [hsUp_succ, hidx_succ, List.map_append, List.map_append, List.map_append, h1, h2, hat, hg]
    by_cases h0 : sv[n].1 = none
    · simp [h0]
    · have h3 : sv[n].1.isSome = true := by cases hx : sv[n].1 with
        | none => exact absurd hx h0
        | some a => rfl
      rw [if_neg h0, if_pos h3]
      simp [hg, hn]
theorem pts_hidx (k : Nat) (sv : List SD) (hsv : ∀ x ∈ sv, x.2.1 ≤ 4096) (hl : sv.length ≤ 256) : ptsOf k (hsUp sv hsv sv.length) = (hidx sv sv.length).take k ∧ fstOf k (hsUp sv hsv sv.length) = ((hidx sv sv.length).take k).map fun j => sdv (sv.getD j (none, 0, 0)) := by
  obtain ⟨h1, h2⟩ := hsUp_idx sv hsv sv.length (Nat.le_refl _)
  constructor
  · unfold ptsOf
    rw [← h1, ← List.map_take]
    apply List.map_congr_left
    intro x hx
    have hm : x.1.1 ∈ hidx sv sv.length := by rw [← h1]; exact List.mem_map.2 ⟨x, List.mem_of_mem_take hx, rfl⟩
    have := hidx_lt sv _ _ hm
    exact Nat.mod_eq_of_lt (by omega)
  · unfold fstOf
    rw [List.map_take, h2, ← List.map_take]
theorem RN.keepO {k : IntKind} {W W' : World} {row : Option Nat} {A : Option Addr} {xs : List Nat} (h : RN k W A xs) (hg : W.grownBy W' row) (hrow : ∀ r, row = some r → ∃ o : Obj, W.heap[r]? = some o ∧ o.isCells = false) : RN k W' A xs := by
  have hr := Kd.reads_of_C (enc := encN k) (d := 0) (h1 := fun _ => rfl) h
  refine Kd.C_of_reads (d := 0) ⟨hr.1, hr.2.1, fun hp => ?_⟩
  obtain ⟨ad, e, hc⟩ := hr.2.2 hp
  exact ⟨ad, e, fun j hj => cell_kept (hc j hj) hg hrow⟩
theorem RR.keepO {W W' : World} {row : Option Nat} {A : Option Addr} {css : List (List Nat)} (h : RR W A css) (hg : W.grownBy W' row) (hrow : ∀ r, row = some r → ∃ o : Obj, W.heap[r]? = some o ∧ o.isCells = false) : RR W' A css := by
  refine ⟨h.1, fun hp => ?_⟩
  obtain ⟨ad, e, hc⟩ := h.2 hp
  refine ⟨ad, e, fun i hi => ?_⟩
  obtain ⟨A', c', h1, h2, h3⟩ := hc i hi
  exact ⟨A', c', cell_kept h1 hg hrow, h2, h3.keepO hg hrow⟩
theorem size_own {β : Type} (N B : Nat) : OwnFrom (β := β) B (fun _ W => N ≤ W.heap.size) := fun _ _ _ _ hs hg _ => Nat.le_trans hs hg.size
theorem boxed_own {β : Type} (B : Nat) (t : TypeId) (v : Value) : Own (fun (_ : β) W => Boxed W B t v) := by
  rintro s X Y row hv hg hrow
  refine hv.kept hg (fun e' => ?_)
  obtain ⟨o, ho, hc⟩ := hrow B e'.symm
  rw [show X.heap[B]? = _ from hv] at ho; cases ho; cases hc
set_option maxRecDepth 100000 in
set_option maxHeartbeats 8000000 in
theorem Repair_in (A : Option Addr) (c : Nat) (sv : List SD) (css : List (List Nat)) (k L : Nat) (w : World) (hI : SV w A sv) (hcs : Cs w sv css) (hk : 1 ≤ k) (hk2 : k ≤ 32) (hk3 : k ≤ sv.length) (hk4 : sv.length ≤ k + 16) (hsv : ∀ x ∈ sv, x.2.1 ≤ 4096)
    (hb : ∀ i, ∀ y ∈ css.getD i [], y < 256) (hL : wrongV (heldLens sv) = 0 → ∀ i (h : i < sv.length), sv[i].1.isSome = true → (css.getD i []).length = L) (hL2 : L ≤ 4096) :
    CallsIn Fence.wide 5 Try.prog 12 #[.slice A sv.length c, .int .i64 k] w (EncAns (repOut sv css k L) (repEr sv k) w) := by
  obtain ⟨q, hq, hq1⟩ : ∃ q : Nat, (sv.length : Int) - k = (q : Int) ∧ q ≤ 16 := ⟨sv.length - k, by omega, by omega⟩
  have d1 : decide ((k : Int) < 1) = false := decide_eq_false (by omega)
  have d2 : decide ((32 : Int) < k) = false := decide_eq_false (by omega)
  have d3 : decide ((sv.length : Int) < k) = false := decide_eq_false (by omega)
  have d3n : decide (sv.length < k) = false := decide_eq_false (by omega)
  have d4 : decide ((16 : Int) < (q : Int)) = false := decide_eq_false (by omega)
  have q0 : (0 : Int) ≤ (q : Int) := by omega
  have q1 : (q : Int) ≤ 16 := by omega
  have hB1 : Below w.heap.size w (w.alloc (.cells #[.int .i64 k] 3)) := (Below.refl _ _).alloc (Nat.le_refl _) _
  have bk := Boxed.new w 3 (.int .i64 k)
  obtain ⟨W1, hW1⟩ : ∃ W1, w.alloc (.cells #[.int .i64 k] 3) = W1 := ⟨_, rfl⟩
  have s1 : W1.heap.size = w.heap.size + 1 := by rw [← hW1]; simp
  rw [hW1] at hB1 bk
  have ck := bk.cell
  obtain ⟨er, her⟩ : ∃ er, wrongV (heldLens sv) = er := ⟨_, rfl⟩
  have hwr := Wrong_p A c sv hsv W1 (hI.below hB1)
  rw [her] at hwr hL
  have HWR := Lib.hid hwr
  have HER := Lib.hid her
  have HL := Lib.hid hL
  have HI := Lib.hid hI
  have HCS := Lib.hid hcs
  have HBB := Lib.hid hb
  have HB1 := Lib.hid hB1
  have BK := Lib.hid bk
  have HW1 := Lib.hid hW1
  clear hwr her hL hI hcs hb hB1 bk hW1
  refine callsIn_of_wp_marks Try.func12 rfl trivial ?_ rfl
  simp only [Try.ntmps12, List.size_toArray, List.length_cons, List.length_nil, Nat.reduceAdd, Nat.reduceSub, Array.replicate_succ, Array.replicate_zero, List.push_toArray, List.append_toArray, List.nil_append, List.cons_append]
  gi_wp2_with (rw [HW1.out])
  refine ⟨trivial, (callsIn_wide.2 HWR.out).mono ?_⟩
  rintro e w1 ⟨rfl, hb1⟩
  have HB2 := Lib.hid (HB1.out.trans (hb1.mono (by omega)))
  have hs2 := hb1.size
  have bk1 : Boxed w1 w.heap.size 3 (.int .i64 k) := (hb1.block _ (by omega)).trans BK.out
  have ck1 := bk1.cell
  have HI2 := Lib.hid (HI.out.below HB2.out)
  have HCS2 := Lib.hid (HCS.out.below HB2.out)
  have BK1 := Lib.hid bk1
  clear hb1 bk1 HWR HI HCS HB1 BK HW1 ck
  by_cases h0 : er = 0
  · subst h0
    gi_wp2
    refine ⟨trivial, (held_in Fence.wide 4 trivial rfl A sv.length c _).mono ?_⟩
    rintro e w4 ⟨rfl, rfl⟩
    obtain ⟨W4, hW4⟩ : ∃ W4, ((w1.alloc (.cells #[.slice none 0 0] 29)).alloc (.cells #[.slice none 0 0] 22)).alloc (.cells #[.slice A sv.length c] 22) = W4 := ⟨_, rfl⟩
    have hB4 : Below w1.heap.size w1 W4 := by rw [← hW4]; exact (((Below.refl _ w1).alloc (Nat.le_refl _) _).alloc (by simp) _).alloc (by simp; omega) _
    have hs4 : W4.heap.size = w1.heap.size + 3 := by rw [← hW4]; simp
    have bp := ((Boxed.new w1 29 (.slice none 0 0)).alloc (.cells #[.slice none 0 0] 22)).alloc (.cells #[.slice A sv.length c] 22)
    have bf := (Boxed.new (w1.alloc (.cells #[.slice none 0 0] 29)) 22 (.slice none 0 0)).alloc (.cells #[.slice A sv.length c] 22)
    have bN := Boxed.new ((w1.alloc (.cells #[.slice none 0 0] 29)).alloc (.cells #[.slice none 0 0] 22)) 22 (.slice A sv.length c)
    simp only [World.size_alloc] at bf bN
    rw [hW4] at bp bf bN
    have bk4 : Boxed W4 w.heap.size 3 (.int .i64 k) := (hB4.block _ (by omega)).trans BK1.out
    have HW4 := Lib.hid hW4
    clear hW4
    gi_wp2
    rw [HW4.out]
    refine wpIn_rangeFunc_ownG rfl (by omega) (gf := 33) (lb := #[.pointer (some ⟨w1.heap.size + 1 + 1, 0, none⟩)]) rfl trivial (enters_of Try.func33 (by kernel_rfl) rfl)
      (held_stops Fence.wide 4 trivial rfl (by omega) (w1.heap.size + 1 + 1) w1.heap.size A c sv hsv w1 W4 (by omega) rfl hB4 bN.cell HI2.out) belowK_t (belowK_b (by omega)) (Below.refl _ _) (fun _ => rfl)
      (fun pre W => ((∃ v, Boxed W w1.heap.size 29 v ∧ W.ownsRow (w1.heap.size + 3) 5 1 v (ptsOf k pre).length (encs (encN .u8) (ptsOf k pre)) ∧ True) ∧ (∃ v, Boxed W (w1.heap.size + 1) 22 v ∧ W.ownsRow (w1.heap.size + 3) 29 1 v (fstOf k pre).length (fstOf k pre) ∧ True)) ∧ ((Boxed W w.heap.size 3 (.int .i64 k) ∧ w1.heap.size + 3 ≤ W.heap.size) ∧ Below w1.heap.size w1 W))
      (fun _ _ _ => False)
      (OwnFrom.and (OwnFrom.and (Own.from (holdsRow_own (w1.heap.size + 3) w1.heap.size 29 5 1 (fun pre => (ptsOf k pre).length) (fun pre => encs (encN .u8) (ptsOf k pre)) (fun _ _ => True)) _) (Own.from (holdsRow_own (w1.heap.size + 3) (w1.heap.size + 1) 22 29 1 (fun pre => (fstOf k pre).length) (fun pre => fstOf k pre) (fun _ _ => True)) _)) (OwnFrom.and (OwnFrom.and (Own.from (boxed_own w.heap.size 3 (.int .i64 k)) _) (size_own (w1.heap.size + 3) _)) (ownFrom_below (Nat.le_refl _) (by omega))))
      (fun _ _ _ _ _ hs _ _ => hs)
      ⟨⟨⟨_, bp, (by have h := World.ownsRow_nil W4 (w1.heap.size + 3) 5 1; simpa [ptsOf, encs] using h), trivial⟩, ⟨_, bf, (by have h := World.ownsRow_nil W4 (w1.heap.size + 3) 29 1; simpa [fstOf] using h), trivial⟩⟩, ⟨bk4, by omega⟩, hB4⟩
      (fun x => { tmps := #[.slice A sv.length c, .int .i64 k, undef, .pointer (some ⟨w.heap.size, 0, none⟩), .slice none 0 0, .int .i64 0, .int .i64 0, .pointer (some ⟨w1.heap.size, 0, none⟩), .pointer (some ⟨w1.heap.size + 1, 0, none⟩), .int .i64 (x.1.1 : Int), .slice x.1.2.1 x.1.2.2.1 x.1.2.2.2, .int .i64 k, .bool false, .bool false, .int .i64 k, .bool false, .bool false, .bool false, .slice A sv.length c, .int .i64 sv.length, .int .i64 k, .bool false, .bool false, .bool false, .slice A sv.length c, .int .i64 sv.length, .int .i64 k, .int .i64 q, .bool false, .bool false, .slice A sv.length c, .int .i64 0, .int .i64 0, .bool false, undef, .slice A sv.length c, .func (.func 33) #[] #[.pointer (some ⟨w1.heap.size + 1 + 1, 0, none⟩)], .int .i64 (x.1.1 : Int), .slice x.1.2.1 x.1.2.2.1 x.1.2.2.2, undef, undef, undef, undef, undef, undef, undef, undef, undef, undef, undef, undef, undef, undef, undef, undef, undef, undef, undef, undef, undef, undef], defers := [] }) ?assign ?body ?done ?stop
    case assign =>
      intro l x W K hK
      gi_wp2
      exact hK
    case body =>
      rintro l pre ⟨⟨xi, xa, xn, xc⟩, hx⟩ W ⟨⟨⟨vp, bp, op, _⟩, ⟨vf, bf, of, _⟩⟩, ⟨bk, bn⟩, hB⟩ hpl
      dsimp only at hx
      obtain ⟨Af, cf, rfl⟩ := own_slice of
      have c1 := bf.cell
      have c2 := bk.cell
      have hfl : (fstOf k pre).length = min k pre.length := by simp [fstOf]
      by_cases hlt : pre.length < k
      · have hfl2 : (fstOf k pre).length = pre.length := by omega
        rw [hfl2] at c1
        have dk : decide ((pre.length : Int) < k) = true := decide_eq_true (by omega)
        have dkn : decide (pre.length < k) = true := decide_eq_true (by omega)
        gi_wp2
        have hPl : (ptsOf k pre).length = pre.length := by simp [ptsOf]; omega
        have hps := ptsOf_snoc k pre ⟨⟨xi, xa, xn, xc⟩, hx⟩ hlt
        have hfs := fstOf_snoc k pre ⟨⟨xi, xa, xn, xc⟩, hx⟩ hlt
        dsimp only at hps hfs
        have hpx : W.ownsRow (w1.heap.size + 3) 5 1 vp (encs (encN .u8) (ptsOf k pre)).length (encs (encN .u8) (ptsOf k pre)) := by
          have e : (encs (encN .u8) (ptsOf k pre)).length = (ptsOf k pre).length := by simp [encs]
          rw [e]; exact op
        rw [hfl2] at of bf
        have hfx : W.ownsRow (w1.heap.size + 3) 29 1 (.slice Af pre.length cf) (fstOf k pre).length (fstOf k pre) := by rw [hfl2]; exact of
        have hPL : (encs (encN .u8) (ptsOf k pre)).length ≤ 32 := by simp [encs]; omega
        have hFL : (fstOf k pre).length ≤ 32 := by omega
        obtain ⟨PX, hPX⟩ : ∃ PX, encs (encN .u8) (ptsOf k pre) = PX := ⟨_, rfl⟩
        obtain ⟨FX, hFX⟩ : ∃ FX, fstOf k pre = FX := ⟨_, rfl⟩
        obtain ⟨vf, hvf⟩ : ∃ vf, (Value.slice Af pre.length cf) = vf := ⟨_, rfl⟩
        rw [hPX] at hpx hPL
        rw [hFX, hvf] at hfx
        rw [hvf] at bf
        rw [hFX] at hFL
        have HPX := Lib.hid hPX
        have HFX := Lib.hid hFX
        have HPS := Lib.hid hps
        have HFS := Lib.hid hfs
        have HB := Lib.hid hB
        have HBK := Lib.hid bk
        have hwr8 := u8_wrap xi
        have hs0 : w1.heap.size + 3 ≤ W.heap.size := bn
        have hs1 : w1.heap.size ≤ W.heap.size := by omega
        have HVF := Lib.hid hvf
        clear hPX hFX op of hps hfs bk bn c1 c2 hB hvf
        refine region_inv_in_round (I := fun listed a W' => ∃ (f0 f1 f2 f3 f4 f5 f6 f7 f8 f9 f10 : Bool) (x43 x44 x45 x46 x47 x48 x49 x50 x51 : Value), listed = #[f0, f1, f2, f3, f4, f5, f6, f7, f8, f9, f10] ∧ a = { tmps := #[.slice A sv.length c, .int .i64 k, undef, .pointer (some ⟨w.heap.size, 0, none⟩), .slice none 0 0, .int .i64 0, .int .i64 0, .pointer (some ⟨w1.heap.size, 0, none⟩), .pointer (some ⟨w1.heap.size + 1, 0, none⟩), .int .i64 (xi : Int), .slice xa xn xc, .int .i64 k, .bool false, .bool false, .int .i64 k, .bool false, .bool false, .bool false, .slice A sv.length c, .int .i64 sv.length, .int .i64 k, .bool false, .bool false, .bool false, .slice A sv.length c, .int .i64 sv.length, .int .i64 k, .int .i64 q, .bool false, .bool false, .slice A sv.length c, .int .i64 0, .int .i64 0, .bool false, undef, .slice A sv.length c, .func (.func 33) #[] #[.pointer (some ⟨w1.heap.size + 1 + 1, 0, none⟩)], .int .i64 (xi : Int), .slice xa xn xc, .slice Af pre.length cf, .int .i64 pre.length, .int .i64 k, .bool true, x43, x44, x45, x46, x47, x48, x49, x50, x51, undef, undef, undef, undef, undef, undef, undef, undef, undef], defers := [] } ∧ RI W w1.heap.size vp vf (.int .u8 ((xi % 256 : Nat) : Int)) (.int .i64 (xi : Int)) (.slice xa xn xc) PX FX f0 f1 f2 f3 f4 f5 f6 f7 f8 f9 f10 x43 x44 x45 x46 x47 x48 x49 x50 x51 W') l _ (by kernel_rfl) (by kernel_rfl) (fun ⟨_, _, h⟩ => h) ?_ ?_ ?_
        · refine ⟨false, false, false, false, false, false, false, false, false, false, false, undef, undef, undef, undef, undef, undef, undef, undef, undef, rfl, rfl, ?_⟩
          exact { a := (Ch.start bp hpx).drew, b := (Ch.start bf hfx).drew, k := ⟨(KeepsOthers.refl _).trans (KeepsOthers.drew _), (Below.refl _ _).drew⟩, n := hs0, v1 := fun h => (by cases h), v2 := fun h => (by cases h), v6 := fun h => (by cases h), d4 := fun h => (by cases h), d8 := fun h => (by cases h), d9b := fun h => (by cases h) }
        · rintro listed a W' i ⟨f0, f1, f2, f3, f4, f5, f6, f7, f8, f9, f10, x43, x44, x45, x46, x47, x48, x49, x50, x51, rfl, rfl, hI⟩ hi
          obtain ⟨hun, o, ho, hdep⟩ := mem_ready.1 hi
          have hi11 : i < 11 := by
            rcases Nat.lt_or_ge i 11 with h | h
            · exact h
            · rw [Array.getD_eq_getD_getElem?, Array.getElem?_eq_none (by simpa using h)] at hun; cases hun
          have hun' := hun
          clear hi
          rcases i with _ | _ | _ | _ | _ | _ | _ | _ | _ | _ | _ | i
          · cases ho
            have hf : f0 = false := hun
            clear hdep hun hun'
            subst hf
            have hg4 : f4 = false := by
              cases h : f4 with
              | false => rfl
              | true => exact absurd (hI.d4 h) (by decide)
            subst hg4
            have hg9 : f9 = false := by
              cases h : f9 with
              | false => rfl
              | true => exact absurd (hI.a.d9 h) (by decide)
            subst hg9
            have hbx : Boxed W' (w1.heap.size) 29 vp := hI.a.box
            have hc := hbx.cell
            refine wpOp_step rfl (fun K hK => ?_)
            go_simp
            exact hK _ _ ⟨true, f1, f2, f3, false, f5, f6, f7, f8, false, f10, vp, x44, x45, x46, x47, x48, x49, x50, x51, rfl, rfl, { hI with a := hI.a.loaded, d4 := fun _ => rfl }⟩
          · cases ho
            have hf : f1 = false := hun
            clear hdep hun hun'
            subst hf
            refine wpOp_step rfl (fun K hK => ?_)
            go_simp
            exact hK _ _ ⟨f0, true, f2, f3, f4, f5, f6, f7, f8, f9, f10, x43, .int .i64 (xi : Int), x45, x46, x47, x48, x49, x50, x51, rfl, rfl, { hI with v1 := fun _ => rfl }⟩
          · cases ho
            have hf : f2 = false := hun
            have e0 : f1 = true := by simp [Region.binds] at hdep; simp [hdep]
            clear hdep hun hun'
            subst e0
            subst hf
            obtain rfl := hI.v1 rfl
            refine wpOp_step rfl (fun K hK => ?_)
            go_simp
            exact hK _ _ ⟨f0, true, true, f3, f4, f5, f6, f7, f8, f9, f10, x43, _, .int .u8 ((xi % 256 : Nat) : Int), x46, x47, x48, x49, x50, x51, rfl, rfl, { hI with v2 := fun _ => rfl }⟩
          · cases ho
            have hf : f3 = false := hun
            have e0 : f2 = true := by simp [Region.binds] at hdep; simp [hdep]
            clear hdep hun hun'
            subst e0
            subst hf
            obtain rfl := hI.v2 rfl
            refine wpOp_step rfl (fun K hK => ?_)
            go_simp
            exact hK _ _ ⟨f0, f1, true, true, f4, f5, f6, f7, f8, f9, f10, x43, x44, _, (.slice (some ⟨W'.heap.size, 0, none⟩) 1 1), x47, x48, x49, x50, x51, rfl, rfl, { hI with a := hI.a.made hI.n, b := hI.b.alloc _, k := hI.k.alloc hs1 _, n := by simpa using Nat.le_succ_of_le hI.n }⟩
          · cases ho
            have hf : f4 = false := hun
            have e0 : f0 = true ∧ f3 = true := by simp [Region.binds] at hdep; simp [hdep]
            clear hdep hun hun'
            obtain ⟨rfl, rfl⟩ := e0
            subst hf
            obtain ⟨b, rfl, hb1, hb2, hb3⟩ := hI.a.lit rfl rfl
            obtain rfl := hI.a.ld rfl
            obtain ⟨i0, hi0, hz0, hz1, hz2⟩ := info_parts info_u8
            refine wpOp_step rfl (fun K hK => ?_)
            rw [if_pos (show Region.wanted _ _ = true from rfl)]
            refine wp_append_own (.tmp 43) (.tmp 46) 29 rfl (w1.heap.size + 3) 5 i0 (.int .u8 0) 1 1 Try.underlying29 hi0 hz0 hz1 hz2 rfl (by decide) _ _ _ rfl (hI.a.old rfl) ⟨b, 0, none⟩ 1 1 [.int .u8 ((xi % 256 : Nat) : Int)] rfl rfl (World.news_of_block hb3) (by simp [Value.oneCell']) (by simp only [maxLen]; omega) (by omega) hI.n ?_
            intro v' W2 ho2 hg2
            exact hK _ _ ⟨true, f1, f2, true, true, f5, f6, f7, f8, f9, f10, _, x44, x45, _, v', x48, x49, x50, x51, rfl, rfl, { hI with a := hI.a.appended (by omega) ho2 hg2, b := hI.b.other (by omega) (hI.a.old rfl) (by decide) hg2, k := hI.k.app (by omega) hI.n (hI.a.old rfl) hg2, n := Nat.le_trans hI.n hg2.size, d4 := fun _ => rfl }⟩
          · cases ho
            have hf : f5 = false := hun
            clear hdep hun hun'
            subst hf
            have hg4 : f8 = false := by
              cases h : f8 with
              | false => rfl
              | true => exact absurd (hI.d8 h) (by decide)
            subst hg4
            have hg9 : f10 = false := by
              cases h : f10 with
              | false => rfl
              | true => exact absurd (hI.b.d9 h) (by decide)
            subst hg9
            have hbx : Boxed W' (w1.heap.size + 1) 22 vf := hI.b.box
            have hc := hbx.cell
            refine wpOp_step rfl (fun K hK => ?_)
            go_simp
            exact hK _ _ ⟨f0, f1, f2, f3, f4, true, f6, f7, false, f9, false, x43, x44, x45, x46, x47, vf, x49, x50, x51, rfl, rfl, { hI with b := hI.b.loaded, d8 := fun _ => rfl }⟩
          · cases ho
            have hf : f6 = false := hun
            clear hdep hun hun'
            subst hf
            refine wpOp_step rfl (fun K hK => ?_)
            go_simp
            exact hK _ _ ⟨f0, f1, f2, f3, f4, f5, true, f7, f8, f9, f10, x43, x44, x45, x46, x47, x48, .slice xa xn xc, x50, x51, rfl, rfl, { hI with v6 := fun _ => rfl }⟩
          · cases ho
            have hf : f7 = false := hun
            have e0 : f6 = true := by simp [Region.binds] at hdep; simp [hdep]
            clear hdep hun hun'
            subst e0
            subst hf
            obtain rfl := hI.v6 rfl
            refine wpOp_step rfl (fun K hK => ?_)
            go_simp
            exact hK _ _ ⟨f0, f1, f2, f3, f4, f5, true, true, f8, f9, f10, x43, x44, x45, x46, x47, x48, _, (.slice (some ⟨W'.heap.size, 0, none⟩) 1 1), x51, rfl, rfl, { hI with b := hI.b.made hI.n, a := hI.a.alloc _, k := hI.k.alloc hs1 _, n := by simpa using Nat.le_succ_of_le hI.n }⟩
          · cases ho
            have hf : f8 = false := hun
            have e0 : f5 = true ∧ f7 = true := by simp [Region.binds] at hdep; simp [hdep]
            clear hdep hun hun'
            obtain ⟨rfl, rfl⟩ := e0
            subst hf
            obtain ⟨b, rfl, hb1, hb2, hb3⟩ := hI.b.lit rfl rfl
            obtain rfl := hI.b.ld rfl
            obtain ⟨i0, hi0, hz0, hz1, hz2⟩ := info_parts info_bytes
            refine wpOp_step rfl (fun K hK => ?_)
            rw [if_pos (show Region.wanted _ _ = true from rfl)]
            refine wp_append_own (.tmp 48) (.tmp 50) 22 rfl (w1.heap.size + 3) 29 i0 (.slice none 0 0) 1 24 Try.underlying22 hi0 hz0 hz1 hz2 rfl (by decide) _ _ _ rfl (hI.b.old rfl) ⟨b, 0, none⟩ 1 1 [.slice xa xn xc] rfl rfl (World.news_of_block hb3) (by simp [Value.oneCell']) (by simp only [maxLen]; omega) (by omega) hI.n ?_
            intro v' W2 ho2 hg2
            exact hK _ _ ⟨f0, f1, f2, f3, f4, true, f6, true, true, f9, f10, x43, x44, x45, x46, x47, _, x49, _, v', rfl, rfl, { hI with b := hI.b.appended (by omega) ho2 hg2, a := hI.a.other (by omega) (hI.b.old rfl) (by decide) hg2, k := hI.k.app (by omega) hI.n (hI.b.old rfl) hg2, n := Nat.le_trans hI.n hg2.size, d8 := fun _ => rfl, d9b := fun _ => rfl }⟩
          · cases ho
            have hf : f9 = false := hun
            have e0 : f0 = true ∧ f3 = true ∧ f4 = true ∧ f8 = true := by simp [Region.binds] at hdep; simp [hdep]
            clear hdep hun hun'
            obtain ⟨rfl, rfl, rfl, rfl⟩ := e0
            subst hf
            obtain rfl := hI.a.ld rfl
            obtain ⟨g', cap', rfl⟩ := ownsRow_succ (hI.a.new rfl)
            have hbx : Boxed W' (w1.heap.size) 29 _ := hI.a.box
            have hc := hbx.cell
            have hfz := hbx.frozen
            refine wpOp_step rfl (fun K hK => ?_)
            go_simp
            exact hK _ _ ⟨true, f1, f2, true, true, f5, f6, f7, true, true, f10, _, x44, x45, x46, _, x48, x49, x50, x51, rfl, rfl, { hI with a := hI.a.stored (by omega), b := hI.b.store_other (by omega) (by omega) _, k := hI.k.store (by omega) _, n := by simpa using hI.n, d9b := fun _ => rfl }⟩
          · cases ho
            have hf : f10 = false := hun
            have e0 : f9 = true := by simp [Region.binds] at hdep; simp [hdep]
            clear hdep hun hun'
            subst e0
            subst hf
            have h9 := hI.a.d9 rfl
            subst h9
            have h8 : f8 = true := by
              cases f8 with
              | true => rfl
              | false => exact absurd (hI.d9b rfl) (by decide)
            subst h8
            have h7 := hI.b.d4 rfl
            subst h7
            have h5 := hI.d8 rfl
            subst h5
            obtain rfl := hI.b.ld rfl
            obtain ⟨g', cap', rfl⟩ := ownsRow_succ (hI.b.new rfl)
            have hbx : Boxed W' (w1.heap.size + 1) 22 _ := hI.b.box
            have hc := hbx.cell
            have hfz := hbx.frozen
            refine wpOp_step rfl (fun K hK => ?_)
            go_simp
            exact hK _ _ ⟨f0, f1, f2, f3, true, true, f6, true, true, true, true, x43, x44, x45, x46, x47, _, x49, x50, _, rfl, rfl, { hI with b := hI.b.stored (by omega), a := hI.a.store_other (by omega) (by omega) _, k := hI.k.store (by omega) _, n := by simpa using hI.n }⟩
          · omega
        · rintro listed a W' ⟨f0, f1, f2, f3, f4, f5, f6, f7, f8, f9, f10, x43, x44, x45, x46, x47, x48, x49, x50, x51, rfl, rfl, hI⟩ hi
          have e0 : f0 = true := by
            have hn : ∀ j : Nat, ¬ j ∈ ([] : List Nat) := by simp
            rw [← hi] at hn
            have h := hn 0
            rw [mem_ready] at h
            simpa [Region.binds] using h
          subst e0
          have e1 : f1 = true := by
            have hn : ∀ j : Nat, ¬ j ∈ ([] : List Nat) := by simp
            rw [← hi] at hn
            have h := hn 1
            rw [mem_ready] at h
            simpa [Region.binds] using h
          subst e1
          have e2 : f2 = true := by
            have hn : ∀ j : Nat, ¬ j ∈ ([] : List Nat) := by simp
            rw [← hi] at hn
            have h := hn 2
            rw [mem_ready] at h
            simpa [Region.binds] using h
          subst e2
          have e3 : f3 = true := by
            have hn : ∀ j : Nat, ¬ j ∈ ([] : List Nat) := by simp
            rw [← hi] at hn
            have h := hn 3
            rw [mem_ready] at h
            simpa [Region.binds] using h
          subst e3
          have e4 : f4 = true := by
            have hn : ∀ j : Nat, ¬ j ∈ ([] : List Nat) := by simp
            rw [← hi] at hn
            have h := hn 4
            rw [mem_ready] at h
            simpa [Region.binds] using h
          subst e4
          have e5 : f5 = true := by
            have hn : ∀ j : Nat, ¬ j ∈ ([] : List Nat) := by simp
            rw [← hi] at hn
            have h := hn 5
            rw [mem_ready] at h
            simpa [Region.binds] using h
          subst e5
          have e6 : f6 = true := by
            have hn : ∀ j : Nat, ¬ j ∈ ([] : List Nat) := by simp
            rw [← hi] at hn
            have h := hn 6
            rw [mem_ready] at h
            simpa [Region.binds] using h
          subst e6
          have e7 : f7 = true := by
            have hn : ∀ j : Nat, ¬ j ∈ ([] : List Nat) := by simp
            rw [← hi] at hn
            have h := hn 7
            rw [mem_ready] at h
            simpa [Region.binds] using h
          subst e7
          have e8 : f8 = true := by
            have hn : ∀ j : Nat, ¬ j ∈ ([] : List Nat) := by simp
            rw [← hi] at hn
            have h := hn 8
            rw [mem_ready] at h
            simpa [Region.binds] using h
          subst e8
          have e9 : f9 = true := by
            have hn : ∀ j : Nat, ¬ j ∈ ([] : List Nat) := by simp
            rw [← hi] at hn
            have h := hn 9
            rw [mem_ready] at h
            simpa [Region.binds] using h
          subst e9
          have e10 : f10 = true := by
            have hn : ∀ j : Nat, ¬ j ∈ ([] : List Nat) := by simp
            rw [← hi] at hn
            have h := hn 10
            rw [mem_ready] at h
            simpa [Region.binds] using h
          subst e10
          clear hi
          refine ⟨hI.k.keep.from _, hI.k.below, ⟨⟨_, hI.a.box, ?_, trivial⟩, ⟨_, hI.b.box, ?_, trivial⟩⟩, ⟨(hI.k.below.block _ (by omega)).trans HBK.out, hI.n⟩, HB.out.trans hI.k.below⟩
          · have e1 : (ptsOf k pre ++ [xi % 256]).length = PX.length + 1 := by rw [← HPX.out]; simp [encs]
            have e2 : encs (encN .u8) (ptsOf k pre ++ [xi % 256]) = PX ++ [.int .u8 ((xi % 256 : Nat) : Int)] := by rw [← HPX.out]; simp [encs, encN]
            rw [HPS.out, e1, e2]
            exact hI.a.new rfl
          · have e1 : (FX ++ [sdv (xa, xn, xc)]).length = FX.length + 1 := by simp
            rw [HFS.out, HFX.out, e1]
            exact hI.b.new rfl
      · have hfl2 : (fstOf k pre).length = k := by omega
        rw [hfl2] at c1
        have e1 := ptsOf_same k pre ⟨⟨xi, xa, xn, xc⟩, hx⟩ (by omega)
        have e2 := fstOf_same k pre ⟨⟨xi, xa, xn, xc⟩, hx⟩ (by omega)
        have E1 := Lib.hid e1
        have E2 := Lib.hid e2
        clear e1 e2
        gi_wp2
        exact ⟨KeepsFrom.refl _ _, Below.refl _ _, ⟨⟨vp, bp, by rw [E1.out]; exact op, trivial⟩, ⟨_, bf, by rw [E2.out]; exact of, trivial⟩⟩, ⟨bk, bn⟩, hB⟩
    case done =>
      rintro D ys W hD rfl ⟨⟨⟨vp, bp, op, _⟩, ⟨vf, bf, of, _⟩⟩, ⟨bk, bn⟩, hB⟩ hK
      obtain ⟨hp1, hp2⟩ := pts_hidx k sv hsv (by omega)
      rw [hp1] at op
      rw [hp2] at of
      obtain ⟨P, hP⟩ : ∃ P, (hidx sv sv.length).take k = P := ⟨_, rfl⟩
      have hPl : P.length = min k (hidx sv sv.length).length := by rw [← hP]; simp
      have hmem : ∀ j ∈ P, j < sv.length ∧ (sv.getD j (none, 0, 0)).1.isSome = true := fun j hj => by
        rw [← hP] at hj
        have h1 := List.mem_filter.1 (List.mem_of_mem_take hj)
        exact ⟨List.mem_range.1 h1.1, h1.2⟩
      have hnd : P.Nodup := by rw [← hP]; exact (hidx_nodup sv sv.length).sublist (List.take_sublist _ _)
      rw [hP] at op of
      have of2 : W.ownsRow (w1.heap.size + 3) 29 1 vf P.length (P.map fun j => sdv (sv.getD j (none, 0, 0))) := by simpa using of
      obtain ⟨Af, cf, rfl⟩ := own_slice of2
      have opN : OwnN .u8 5 W (w1.heap.size + 3) vp P := op
      obtain ⟨Ap, cp, rfl, hcp, rp⟩ := opN.reads
      have c1 := bf.cell
      have c2 := bk.cell
      have c3 := bp.cell
      have hBw : Below w.heap.size w W := HB2.out.trans (hB.mono (by omega))
      have HBW := Lib.hid hBw
      have HBB2 := Lib.hid hB
      by_cases hkt : k ≤ (hidx sv sv.length).length
      · have hPk : P.length = k := by omega
        have dk : decide ((P.length : Int) < k) = false := decide_eq_false (by omega)
        have dkn : decide (P.length < k) = false := decide_eq_false (by omega)
        have dki : ¬ (P.length : Int) < k := by omega
        have dkm : ¬ P.length < k := by omega
        obtain ⟨fc, hfc⟩ : ∃ fc, P.map (fun j => css.getD j []) = fc := ⟨_, rfl⟩
        have hfl : fc.length = P.length := by rw [← hfc, List.length_map]
        have hcs3 : Cs W sv css := HCS2.out.below hB
        have hrf : RR W Af fc := by
          refine RR.ofRow (base := w1.heap.size + 3) (e := 29) (cf := cf) (vals := P.map fun j => sdv (sv.getD j (none, 0, 0))) (by rw [hfl]; exact of2) (fun q hq => ?_)
          have hqP : q < P.length := by omega
          obtain ⟨h1, h2⟩ := hmem _ (List.getElem_mem hqP)
          have hg : sv.getD P[q] (none, 0, 0) = sv[P[q]] := by simp [List.getD_eq_getElem?_getD, h1]
          obtain ⟨c1, c2, c3⟩ := hcs3 P[q] h1
          have e1 : fc[q] = css.getD P[q] [] := by simp [← hfc]
          rw [e1]
          refine ⟨sv[P[q]].1, sv[P[q]].2.2, ?_, c3, c1⟩
          rw [List.getElem?_map, List.getElem?_eq_getElem hqP, Option.map_some, hg, ← c2]
          rfl
        have hfL : ∀ cs ∈ fc, cs.length = L := fun cs hcs => by
          rw [← hfc] at hcs
          obtain ⟨j, hj, rfl⟩ := List.mem_map.1 hcs
          obtain ⟨h1, h2⟩ := hmem j hj
          exact HL.out (by first | rfl | trivial) j h1 (by simpa [List.getD_eq_getElem?_getD, h1] using h2)
        have hfB : ∀ cs ∈ fc, ∀ y ∈ cs, y < 256 := fun cs hcs => by
          rw [← hfc] at hcs
          obtain ⟨j, hj, rfl⟩ := List.mem_map.1 hcs
          exact HBB.out j
        have hPb : ∀ y ∈ P, y < 256 := fun y hy => by have := (hmem y hy).1; omega
        obtain ⟨gp, rfl, _, hgp1, hgp2⟩ := opN.head (by omega)
        have hgs := grp_same fc P L sv.length hPb hnd hfl hfL hfB
        have hgr := group_c Af cf gp cp (w1.heap.size + 3) fc P L sv.length W hrf (by omega) (by omega) (by omega) hfL hL2 hfB opN hPb hnd (by omega)
        rw [hgs, hfl] at hgr
        have e1 : repOut sv css k L = grpR fc P L sv.length := by unfold repOut; rw [if_pos ⟨HER.out, hkt⟩, hP, hfc]
        have e2 : repEr sv k = 0 := by unfold repEr; rw [HER.out, if_pos rfl, if_pos hkt]
        rw [← e1] at hgr
        have HGR := Lib.hid hgr
        have HE2 := Lib.hid e2
        clear hgs hgr e1 e2 hmem hnd hP hPl hPk hfc hfl hcs3 hrf hfL hfB hPb op of of2 opN rp hp1 hp2 bp bf bk hcp hBw hgp1 hgp2
        gi_wp2
        refine ⟨trivial, (callsIn_wide.2 HGR.out).mono ?_⟩
        rintro e w3 ⟨v3, okc3, rfl, hs3, hb3⟩
        obtain ⟨X3, x3, rfl, hx3, rr3⟩ := hs3.reads
        have hK3 : w3.heap[D]? = some (.deferred (some [])) := (hb3.block D (Array.getElem?_eq_some_iff.1 hK).1).trans hK
        have HB3 := Lib.hid (HBW.out.trans (hb3.mono HBW.out.size))
        have R3 := Lib.hid rr3
        clear hs3 hb3 rr3
        gi_wp2
        refine ⟨by simp, .inl ⟨_, _, rfl, run_takeDeferred hK3, ⟨_, results_tmp2 rfl _ _ _, ?_⟩⟩⟩
        rw [HE2.out]
        exact ⟨X3, x3, rfl, R3.out.keepO (grownBy_putObj' w3 D _) (fun r e => by cases e; exact ⟨_, hK3, rfl⟩), HB3.out.trans (belowK_b (w := w) (Nat.le_refl _) w3 D _ _ (by have := hB.size; omega) hK3 rfl rfl)⟩
      · have dk : decide ((P.length : Int) < k) = true := decide_eq_true (by omega)
        have dkn : decide (P.length < k) = true := decide_eq_true (by omega)
        have dki : (P.length : Int) < k := by omega
        have e1 : repOut sv css k L = [] := by unfold repOut; rw [if_neg (fun h => hkt h.2)]
        have e2 : repEr sv k = 3 := by unfold repEr; rw [HER.out, if_pos rfl, if_neg hkt]
        have HE1 := Lib.hid e1
        have HE2 := Lib.hid e2
        clear e1 e2 hmem hnd hP hPl op of of2 opN rp hp1 hp2
        gi_wp2
        refine ⟨by simp, .inl ⟨_, _, rfl, run_takeDeferred hK, ⟨_, results_tmp2 rfl _ _ _, ?_⟩⟩⟩
        rw [HE1.out, HE2.out]
        exact ⟨none, 0, rfl, RR.nil _, HBW.out.trans (belowK_b (w := w) (Nat.le_refl _) W D _ _ (by have := hB.size; omega) hK rfl rfl)⟩
    case stop =>
      rintro D c pre W _ _ h _
      exact h.elim
  · have hne : (er != 0) = true := by simp [h0]
    gi_wp2
    refine ⟨_, results_tmp2 rfl _ _ _, ?_⟩
    have e1 : repOut sv css k L = [] := by unfold repOut; rw [if_neg (by rw [HER.out]; exact fun h => h0 h.1)]
    have e2 : repEr sv k = er := by unfold repEr; rw [HER.out, if_neg h0]
    rw [e1, e2]
    exact ⟨none, 0, rfl, RR.nil _, HB2.out⟩
end Go.Proofs.Ytdmfecaejdiihaa.F
