/- The document's map: made; sectors set. -/
import Derived.Test.YtdfgaomlahpblaaEo
set_option linter.unusedVariables false
set_option linter.unusedSimpArgs false
namespace Go.Proofs.Ytdfgaomlahpblaa.F
open Go.RowKit Go.Proofs.YtdfgaomlahpblaaW.PrintWords

/-- What a slice of truths reads as. -/
def RB (W : World) (A : Option Addr) (T : List Bool) : Prop :=
  T.length ≤ 9223372036854775807 ∧ (0 < T.length → ∃ g o, A = some ⟨g, o, none⟩ ∧ (∃ cs x, W.heap[g]? = some (.cells cs 4 x)) ∧ ∀ i (h : i < T.length), W.cell? ⟨g, o + i, none⟩ = some (.bool T[i]))
def OwnB (W : World) (base : Nat) (v : Value) (T : List Bool) : Prop := W.ownsRow base 4 1 v T.length (T.map Value.bool)
theorem OwnB.below {W W' : World} {base : Nat} {v : Value} {T : List Bool} (h : OwnB W base v T) (hb : Below W.heap.size W W') : OwnB W' base v T := pw_own_below h hb
theorem OwnB.reads {W : World} {base : Nat} {v : Value} {T : List Bool} (h : OwnB W base v T) : ∃ A c, v = .slice A T.length c ∧ T.length ≤ c ∧ RB W A T := by
  rcases h.2 with ⟨e, h0⟩ | ⟨g, cap, cur, e, hb, hh, hc, hm, hs, ht⟩
  · obtain rfl : T = [] := List.eq_nil_of_length_eq_zero h0
    exact ⟨none, 0, e, by simp, by simp, fun h => by simp at h⟩
  · refine ⟨_, _, e, hc, by unfold maxLen at hm; omega, fun hp => ⟨g, 0, rfl, ⟨_, _, hh⟩, fun i hi => ?_⟩⟩
    subst e
    have h2 := h.cells (g := g) rfl i (.bool T[i]) (by simp [hi])
    rw [Addr.add_lit] at h2
    exact h2
theorem info_bool : (Try.prog.info? 4).map (fun i => (i.zero, i.size, i.bytes)) = some (some (.bool false), 1, 1) := by kernel_rfl
/-- A document's map in a world. -/
def EY (W : World) (b f : Nat) (T : List Bool) : Prop := ∃ A c, W.heap[b]? = some (.cells #[.int .i64 (f : Nat), .slice A T.length c] 71 (0, 0)) ∧ RB W A T ∧ T.length ≤ c
theorem RB.move {W W' : World} {A : Option Addr} {T : List Bool} (h : RB W A T) (hm : ∀ (g : Nat) (cs : Array Value) (x : Nat × Nat), W.heap[g]? = some (Obj.cells cs 4 x) → W'.heap[g]? = W.heap[g]?) : RB W' A T := by
  refine ⟨h.1, fun hp => ?_⟩
  obtain ⟨g, o, e, ⟨cs, x, hh⟩, hc⟩ := h.2 hp
  exact ⟨g, o, e, ⟨cs, x, (hm _ _ _ hh).trans hh⟩, fun i hi => (cell_move (a := ⟨g, o + i, none⟩) (hm _ _ _ hh)).trans (hc i hi)⟩
theorem EY.move {W W' : World} {b f : Nat} {T : List Bool} (h : EY W b f T) (hm : ∀ (g : Nat) (cs : Array Value) (t : Nat) (x : Nat × Nat), (t = 4 ∨ t = 71 ∧ g = b) → W.heap[g]? = some (Obj.cells cs t x) → W'.heap[g]? = W.heap[g]?) : EY W' b f T := by
  obtain ⟨A, c, h1, h2, h3⟩ := h
  exact ⟨A, c, (hm _ _ _ _ (.inr ⟨rfl, rfl⟩) h1).trans h1, h2.move (fun g cs x hh => hm g cs _ x (.inl rfl) hh), h3⟩
theorem EY.below {W W' : World} {b f : Nat} {T : List Bool} (h : EY W b f T) (hb : Below W.heap.size W W') : EY W' b f T := h.move (fun g cs t x _ hh => hb.block g (Array.getElem?_eq_some_iff.1 hh).1)
theorem EY.lt {W : World} {b f : Nat} {T : List Bool} (h : EY W b f T) : b < W.heap.size := by obtain ⟨A, c, h1, _⟩ := h; exact (Array.getElem?_eq_some_iff.1 h1).1
section
variable {ops : Array Oper} {rest : List Oper} {o : Oper} {a : Act} {Q : Exit → Act → World → Prop}
theorem append_B {w0 W : World} (base : Nat) (hgd : o.guard = none) (s x : Operand)
    (ho : o.op = .call { callee := .builtin .append, args := #[s, x], argTypes := #[69, 69] })
    (v : Value) (T : List Bool) (y : Bool) (hs : a.eval s = v) (B : Nat) (hx : a.eval x = .slice (some ⟨B, 0, none⟩) 1 1) (hB : B = W.heap.size)
    (HO : OwnB W base v T) (HB : Below base w0 W) (hbase : base ≤ W.heap.size) (hl : T.length ≤ 100000)
    (h : ∀ v1 w1, OwnB w1 base v1 (T ++ [y]) → Below base w0 w1 → wpList Try.prog ops Q rest (a.put o.dst v1) w1) :
    wpList Try.prog ops Q (o :: rest) a (W.alloc (.cells #[.bool y] 4)) :=
  print_append base hgd s x 69 4 (.bool false) 1 ho Try.underlying69 info_bool rfl (by omega) v (T.map Value.bool) (.bool y) hs (hB ▸ hx) rfl (by rw [List.length_map]; exact HO) HB hbase (by rw [List.length_map]; omega)
    fun v1 w1 hown hB _ _ => h v1 w1 (by simpa [OwnB] using hown) hB
end
theorem new_step {wo w5 : World} {B f n : Nat} {v v5 : Value} (hg : wo.heap[B]? = some (.cells #[.int .i64 (f : Nat), v] 71 (0, 0))) (ho : OwnB w5 (B + 1) v5 (List.replicate n false ++ [false])) (hb : Below (B + 1) wo w5) :
    ∃ A5 c5, v5 = .slice A5 (n + 1) c5 ∧ OwnB w5 (B + 1) (.slice A5 (n + 1) c5) (List.replicate (n + 1) false) ∧ w5.heap[B]? = some (.cells #[.int .i64 (f : Nat), v] 71 (0, 0)) ∧ w5.cell? ⟨B, 1, none⟩ = some v ∧ w5.frozen? ⟨B, 1, none⟩ = false := by
  rw [← List.replicate_succ'] at ho
  obtain ⟨A5, c5, e5, _, _⟩ := ho.reads
  rw [List.length_replicate] at e5
  subst e5
  have hg5 := (hb.block B (by omega)).trans hg
  exact ⟨A5, c5, rfl, ho, hg5, by rw [cell_of_row _ _ _ _ _ _ hg5]; rfl, frozen_of_row _ _ _ _ _ hg5⟩
set_option maxRecDepth 20000 in
set_option maxHeartbeats 4000000 in
theorem New_r (f t : Nat) (w : World) (h : f ≤ t) (ht : t ≤ 4096) :
    Calls Try.prog 35 #[.int .i64 f, .int .i64 t] w fun e w' => ∃ b, e = .returned (.tuple #[.pointer (some ⟨b, 0, none⟩), .int .i64 0]) ∧ w.heap.size ≤ b ∧ EY w' b f (List.replicate (t - f) false) ∧ Below w.heap.size w w' := by
  have d1 : decide ((f : Int) < 0) = false := decide_eq_false (by omega)
  have d2 : decide ((t : Int) < f) = false := decide_eq_false (by omega)
  have d2' : decide (t < f) = false := decide_eq_false (by omega)
  have d3 : decide ((4096 : Int) < t) = false := decide_eq_false (by omega)
  have hg := heap_alloc_new w (.cells #[.int .i64 (f : Nat), .slice none 0 0] 71)
  have hb : Below w.heap.size w (w.alloc (.cells #[.int .i64 (f : Nat), .slice none 0 0] 71)) := (Below.refl _ _).alloc (Nat.le_refl _) _
  obtain ⟨W1, hW1⟩ : ∃ W1, w.alloc (.cells #[.int .i64 (f : Nat), .slice none 0 0] 71) = W1 := ⟨_, rfl⟩
  rw [hW1] at hg hb
  have hs1 : W1.heap.size = w.heap.size + 1 := by rw [← hW1]; simp
  have hnil : OwnB W1 (w.heap.size + 1) (.slice none 0 0) (List.replicate 0 false) := own_nil _ _ _ _
  have HG := Lib.hid hg
  have HB := Lib.hid hb
  have HW1 := Lib.hid hW1
  have HNIL := Lib.hid hnil
  clear hg hb hW1 hnil
  go_enter Try.func35, Try.ntmps35
  go_wp2_with fail
  rw [HW1.out]
  go_loopw [7] (fun vi W => ∃ (i : Nat) (v : Value), f ≤ i ∧ i ≤ t ∧ vi = .int .i64 i ∧ W.heap[w.heap.size]? = some (.cells #[.int .i64 (f : Nat), v] 71 (0, 0)) ∧ OwnB W (w.heap.size + 1) v (List.replicate (i - f) false) ∧ Below w.heap.size w W ∧ w.heap.size + 1 ≤ W.heap.size) (fun vi _ => t - (intOf vi).toNat)
  case atStart => exact ⟨f, _, by omega, by omega, rfl, HG.out, by rw [Nat.sub_self]; exact HNIL.out, HB.out, by omega⟩
  case round =>
    obtain ⟨i, v, hfi, hit, rfl, hgb, ho, hb, hsz⟩ := hrel
    obtain ⟨A, c, e, hc, hr⟩ := ho.reads
    rw [List.length_replicate] at e
    subst e
    have HG2 := Lib.hid hgb
    have HO := Lib.hid ho
    have HB2 := Lib.hid hb
    have c1 : wr.cell? ⟨w.heap.size, 1, none⟩ = some (.slice A (i - f) c) := by rw [cell_of_row _ _ _ _ _ _ hgb]; rfl
    have f1 : wr.frozen? ⟨w.heap.size, 1, none⟩ = false := frozen_of_row _ _ _ _ _ hgb
    by_cases hlt : i < t
    · have hd : decide ((i : Int) < t) = true := decide_eq_true (by omega)
      have hd2 : decide (i < t) = true := decide_eq_true hlt
      have hne : ¬ (wr.heap.size = w.heap.size) := by omega
      have HR := Lib.hid hr
      clear hgb ho hb hr
      obtain ⟨wo, rfl⟩ : ∃ wo : World, wo = wr := ⟨_, rfl⟩
      go_wp2_with (at_builtin; refine append_B (w0 := wo) (w.heap.size + 1) rfl (.tmp 32) (.tmp 33) rfl _ _ false rfl _ rfl rfl HO.out (Below.refl _ _) hsz (by rw [List.length_replicate]; omega) ?_; intro v5 w5 ho5 hb5; obtain ⟨A5, c5, rfl, ho6, hg5, c15, f15⟩ := new_step HG2.out ho5 hb5; have HO6 := Lib.hid ho6; have HG5 := Lib.hid hg5; have HB5 := Lib.hid hb5; clear ho5 ho6 hg5 hb5)
      have hg6 := heap_setCell_same w5 w.heap.size 1 _ _ (.slice A5 (i - f + 1) c5) HG5.out
      have ho7 : OwnB (w5.setCell ⟨w.heap.size, 1, none⟩ (.slice A5 (i - f + 1) c5)) (w.heap.size + 1) (.slice A5 (i - f + 1) c5) (List.replicate (i + 1 - f) false) := by
        rw [show i + 1 - f = i - f + 1 by omega]
        exact own_move HO6.out (fun k hk => heap_setCell_other _ _ _ _ (fun e => by
          have := own_base HO6.out k hk
          simp at e
          omega))
      have hb6 : Below w.heap.size w (w5.setCell ⟨w.heap.size, 1, none⟩ (.slice A5 (i - f + 1) c5)) := (HB2.out.trans (HB5.out.mono (by omega))).setCell (p := ⟨w.heap.size, 1, none⟩) (Nat.le_refl _) _
      have hs6 : w.heap.size + 1 ≤ (w5.setCell ⟨w.heap.size, 1, none⟩ (.slice A5 (i - f + 1) c5)).heap.size := by simp; have := HB5.out.size; omega
      exact ⟨⟨i + 1, _, by omega, by omega, by go_num, hg6, ho7, hb6, hs6⟩, by simp [intOf]; omega⟩
    · have hd : decide ((i : Int) < t) = false := decide_eq_false (by omega)
      have hd2 : decide (i < t) = false := decide_eq_false hlt
      obtain rfl : i = t := by omega
      have hey : EY wr w.heap.size f (List.replicate (i - f) false) := ⟨A, c, by rw [List.length_replicate]; exact hgb, hr, hc⟩
      have HEY := Lib.hid hey
      clear hgb ho hb hr hey
      go_wp2_with fail
      go_ret2
      exact ⟨_, rfl, Nat.le_refl _, HEY.out, HB2.out⟩
theorem EY.c0 {W : World} {b f : Nat} {T : List Bool} (h : EY W b f T) : W.cell? ⟨b, 0, none⟩ = some (.int .i64 (f : Nat)) := by
  obtain ⟨A, c, h1, _⟩ := h
  rw [cell_of_row _ _ _ _ _ _ h1]; rfl
theorem RB.at {W : World} {A : Option Addr} {T : List Bool} (h : RB W A T) (i : Nat) (hi : i < T.length) : ∃ g o, A = some ⟨g, o, none⟩ ∧ W.cell? ⟨g, o + i, none⟩ = some (.bool (T.getD i true)) := by
  obtain ⟨g, o, e, _, hc⟩ := h.2 (by omega)
  refine ⟨g, o, e, ?_⟩
  rw [hc i hi]
  simp [List.getD_eq_getElem?_getD, hi]
theorem setT_succ (T : List Bool) (a n : Nat) (y : Bool) (i : Nat) (h : i < T.length) : (setT T a n y).take (i + 1) = (setT T a n y).take i ++ [if a ≤ i ∧ i - a < n then y else T.getD i true] := by
  have h' : i < (setT T a n y).length := by rw [setT_len]; exact h
  rw [List.take_succ_eq_append_getElem h']
  congr 2
  have := setT_get T a n y i h
  rw [List.getD_eq_getElem?_getD, List.getElem?_eq_getElem h'] at this
  exact this
set_option maxRecDepth 20000 in
set_option maxHeartbeats 4000000 in
theorem set_r (b f : Nat) (T : List Bool) (at' n : Nat) (y : Bool) (w : World) (hm : EY w b f T) (hT : T.length ≤ 10000) (ha : at' ≤ 100000) (hn : n ≤ 100000) :
    Calls Try.prog 45 #[.pointer (some ⟨b, 0, none⟩), .int .i64 at', .int .i64 n, .bool y] w fun e w' => e = .returned (.tuple #[]) ∧ EY w' b f (setT T at' n y) ∧ Gr (fun k => k = b) w w' := by
  have hb := hm.lt
  obtain ⟨A, c, hg, hr, hc⟩ := hm
  have hbE : Below w.heap.size w (w.alloc (.cells #[] 4)) := (Below.refl _ _).alloc (Nat.le_refl _) _
  have hE : OwnB (w.alloc (.cells #[] 4)) w.heap.size (.slice (some ⟨w.heap.size, 0, none⟩) 0 0) ((setT T at' n y).take 0) := by
    have h := World.ownsRow_lit (base := w.heap.size) (e := 4) (size := 1) w #[] 0 (by simp) (by simp [maxLen]) (by simp)
    simpa [OwnB] using h
  have HG := Lib.hid hg
  have HR := Lib.hid hr
  have HE := Lib.hid hE
  have HBE := Lib.hid hbE
  have n0 : (T.length : Int) ≤ 10000 := by omega
  have n1 : (at' : Int) ≤ 100000 := by omega
  have n2 : (n : Int) ≤ 100000 := by omega
  clear hg hr hE hbE
  go_enter Try.func45, Try.ntmps45
  go_wp2_with fail
  go_loopw [8, 9] (fun vl vi W => ∃ i : Nat, i ≤ T.length ∧ vi = .int .i64 i ∧ OwnB W w.heap.size vl ((setT T at' n y).take i) ∧ Below w.heap.size w W) (fun _ vi _ => T.length - (intOf vi).toNat)
  case atStart => exact ⟨0, by omega, rfl, HE.out, HBE.out⟩
  case round =>
    obtain ⟨i, hi, rfl, ho, hB⟩ := hrel
    have hgr := (hB.block b hb).trans HG.out
    have c1 : wr.cell? ⟨b, 1, none⟩ = some (.slice A T.length c) := by rw [cell_of_row _ _ _ _ _ _ hgr]; rfl
    have f1 : wr.frozen? ⟨b, 1, none⟩ = false := frozen_of_row _ _ _ _ _ hgr
    have hrr := HR.out.move (W' := wr) (fun g cs x hh => hB.block g (Array.getElem?_eq_some_iff.1 hh).1)
    have hsz := hB.size
    have HO := Lib.hid ho
    have HB := Lib.hid hB
    by_cases hlt : i < T.length
    · have hd : decide ((i : Int) < T.length) = true := decide_eq_true (by omega)
      obtain ⟨g, o, e, a1⟩ := hrr.at i hlt
      subst e
      have hst := setT_succ T at' n y i hlt
      obtain ⟨z, hz⟩ : ∃ z, T.getD i true = z := ⟨_, rfl⟩
      rw [hz] at a1 hst
      have HST := Lib.hid hst
      have i0 : (0 : Int) ≤ (i : Int) := by omega
      have i1 : (i : Int) < (T.length : Int) := by omega
      have hlen : ((setT T at' n y).take i).length ≤ 100000 := by rw [List.length_take, setT_len]; omega
      clear hgr hrr ho hB hz hst
      by_cases h1 : at' ≤ i
      · have hd1 : decide ((at' : Int) ≤ i) = true := decide_eq_true (by omega)
        have hd1' : decide (at' ≤ i) = true := decide_eq_true h1
        have k1 : (0 : Int) ≤ (i : Int) - at' := by omega
        by_cases h2 : i - at' < n
        · have hd2 : decide ((i : Int) - at' < n) = true := decide_eq_true (by omega)
          obtain ⟨wo, rfl⟩ : ∃ wo : World, wo = wr := ⟨_, rfl⟩
          go_wp2_with (at_builtin; refine append_B (w0 := wo) w.heap.size rfl (.tmp 39) (.tmp 41) rfl _ _ y rfl _ rfl rfl HO.out (Below.refl _ _) hsz hlen ?_; intro v5 w5 ho5 hb5)
          rw [show (setT T at' n y).take i ++ [y] = (setT T at' n y).take (i + 1) by rw [HST.out, if_pos ⟨h1, h2⟩]] at ho5
          have HO5 := Lib.hid ho5
          have HB5 := Lib.hid (HB.out.trans hb5)
          clear ho5 hb5
          go_wp2_with fail
          exact ⟨⟨i + 1, by omega, by go_num, HO5.out, HB5.out⟩, by simp [intOf]; omega⟩
        · have hd2 : decide ((i : Int) - at' < n) = false := decide_eq_false (by omega)
          obtain ⟨wo, rfl⟩ : ∃ wo : World, wo = wr := ⟨_, rfl⟩
          go_wp2_with (at_builtin; refine append_B (w0 := wo) w.heap.size rfl (.tmp 39) (.tmp 41) rfl _ _ z rfl _ rfl rfl HO.out (Below.refl _ _) hsz hlen ?_; intro v5 w5 ho5 hb5)
          rw [show (setT T at' n y).take i ++ [z] = (setT T at' n y).take (i + 1) by rw [HST.out, if_neg (fun h => h2 h.2)]] at ho5
          have HO5 := Lib.hid ho5
          have HB5 := Lib.hid (HB.out.trans hb5)
          clear ho5 hb5
          go_wp2_with fail
          exact ⟨⟨i + 1, by omega, by go_num, HO5.out, HB5.out⟩, by simp [intOf]; omega⟩
      · have hd1 : decide ((at' : Int) ≤ i) = false := decide_eq_false (by omega)
        have hd1' : decide (at' ≤ i) = false := decide_eq_false h1
        obtain ⟨wo, rfl⟩ : ∃ wo : World, wo = wr := ⟨_, rfl⟩
        go_wp2_with (at_builtin; refine append_B (w0 := wo) w.heap.size rfl (.tmp 39) (.tmp 41) rfl _ _ z rfl _ rfl rfl HO.out (Below.refl _ _) hsz hlen ?_; intro v5 w5 ho5 hb5)
        rw [show (setT T at' n y).take i ++ [z] = (setT T at' n y).take (i + 1) by rw [HST.out, if_neg (fun h => h1 h.1)]] at ho5
        have HO5 := Lib.hid ho5
        have HB5 := Lib.hid (HB.out.trans hb5)
        clear ho5 hb5
        go_wp2_with fail
        exact ⟨⟨i + 1, by omega, by go_num, HO5.out, HB5.out⟩, by simp [intOf]; omega⟩
    · have hd : decide ((i : Int) < T.length) = false := decide_eq_false (by omega)
      obtain rfl : i = T.length := by omega
      rw [List.take_of_length_le (by rw [setT_len]; exact Nat.le_refl _)] at ho
      obtain ⟨A5, c5, e5, hc5, hr5⟩ := ho.reads
      subst e5
      have hg6 := heap_setCell_same wr b 1 _ _ (.slice A5 (setT T at' n y).length c5) hgr
      have hr6 : RB (wr.setCell ⟨b, 1, none⟩ (.slice A5 (setT T at' n y).length c5)) A5 (setT T at' n y) := hr5.move (fun g cs x hh => heap_setCell_other _ _ _ _ (fun e => by
        subst e
        rw [hgr] at hh
        cases hh))
      have hey : EY (wr.setCell ⟨b, 1, none⟩ (.slice A5 (setT T at' n y).length c5)) b f (setT T at' n y) := ⟨A5, c5, hg6, hr6, hc5⟩
      have hgg : Gr (fun k => k = b) w (wr.setCell ⟨b, 1, none⟩ (.slice A5 (setT T at' n y).length c5)) := (Gr.of_below _ hB).trans (Gr.setCell (S := fun k => k = b) wr ⟨b, 1, none⟩ _ rfl) (fun _ _ h => h)
      obtain ⟨m5, hm5⟩ : ∃ m5, (setT T at' n y).length = m5 := ⟨_, rfl⟩
      rw [hm5] at hey hgg ⊢
      have HEY := Lib.hid hey
      have HGG := Lib.hid hgg
      clear hgr hrr ho hB hr5 hg6 hr6 hey hgg hm5 HO
      go_wp2_with fail
      go_end0
      exact ⟨rfl, HEY.out, HGG.out⟩
end Go.Proofs.Ytdfgaomlahpblaa.F
