/- Part 3 of the proof: TB, TBr, TK1. -/
import Derived.Test.YtbcamfbbooggfaaGreatProg
import Derived.Test.YtbcamfbbooggfaaGreatQ02
import Derived.WalkKit
import Derived.WalkSpells
import Derived.Outline
import Derived.Lib.Hide
import Derived.Deep.QuietTactic
import Derived.BigQuiet
import Derived.Deep.DeepMust
import Derived.Laws.OwnMore

section
/- Small words for walks: rows of natural numbers that are read. -/
namespace Go.Proofs.YtbcamfbbooggfaaGreat.F
open Go.RowKit Go.Proofs.YtbcamfbbooggfaaGreatW.PrintWords

def encN (k : IntKind) (n : Nat) : Value := .int k (n : Int)
def kn (k : IntKind) : Kd Nat := Kd.scalar (encN k) (fun _ => rfl)
/-- What the slice at A reads as: the numbers xs. -/
def RN (k : IntKind) (w : World) (A : Option Addr) (xs : List Nat) : Prop := (kn k).C w A xs.length xs
theorem RN.below {k : IntKind} {w w1 : World} {A : Option Addr} {xs : List Nat} (h : RN k w A xs) (hb : Below w.heap.size w w1) : RN k w1 A xs := Kd.C_below h hb
theorem RN.max {k : IntKind} {w : World} {A : Option Addr} {xs : List Nat} (h : RN k w A xs) : (xs.length : Int) ≤ 9223372036854775807 := by have := h.2.1; omega
theorem RN.at {k : IntKind} {w : World} {A : Option Addr} {xs : List Nat} (h : RN k w A xs) (i : Nat) (hi : i < xs.length) : ∃ ad, A = some ad ∧ w.cell? (ad.add i) = some (.int k (xs[i] : Nat)) := by
  obtain ⟨ad, e, hc⟩ := ReadsOf.at_ (d := 0) (Kd.reads_of_C h) (i : Int) (by omega) (by omega)
  refine ⟨ad, e, ?_⟩
  simpa [rdOf, encN, List.getD_eq_getElem?_getD, hi] using hc
theorem RN.drewN {k : IntKind} {w : World} {A : Option Addr} {xs : List Nat} (h : RN k w A xs) (n : Nat) : RN k (w.drewN n) A xs := h.below (pw_below_drewN (Below.refl _ _) n)
/-- A row of natural numbers of the call's own, laid in a block from base on. -/
def OwnN (k : IntKind) (e : TypeId) (w : World) (base : Nat) (v : Value) (xs : List Nat) : Prop := w.ownsRow base e 1 v xs.length (xs.map (encN k))
theorem OwnN.nil (k : IntKind) (e : TypeId) (w : World) (base : Nat) : OwnN k e w base (.slice none 0 0) [] := own_nil _ _ _ _
theorem OwnN.lower {k : IntKind} {e : TypeId} {w : World} {base b : Nat} {v : Value} {xs : List Nat} (h : OwnN k e w base v xs) (hb : b ≤ base) : OwnN k e w b v xs := by
  refine ⟨h.1, ?_⟩
  rcases h.2 with ⟨h1, h2⟩ | ⟨g, cap, cur, h1, h2, h3⟩
  · exact .inl ⟨h1, h2⟩
  · exact .inr ⟨g, cap, cur, h1, by omega, h3⟩
theorem OwnN.kept {k : IntKind} {e : TypeId} {w w1 : World} {base : Nat} {v : Value} {xs : List Nat} (h : OwnN k e w base v xs) (hb : Below w.heap.size w w1) : OwnN k e w1 base v xs := pw_own_below h hb
theorem OwnN.reads {k : IntKind} {e : TypeId} {w : World} {base : Nat} {v : Value} {xs : List Nat} (h : OwnN k e w base v xs) : ∃ A c, v = .slice A xs.length c ∧ xs.length ≤ c ∧ RN k w A xs := by
  obtain ⟨A, c, rfl, hc, hr⟩ := own_reads_of_le (enc := encN k) (d := 0) h
  exact ⟨A, c, rfl, hc, Kd.C_of_reads hr⟩
section
variable {P : Program} {ops : Array Oper} {rest : List Oper} {o : Oper} {a : Act} {Q : Exit → Act → World → Prop}
theorem append_N {w0 W : World} (base : Nat) (hgd : o.guard = none) (s x : Operand) (t e : TypeId) (k : IntKind) (bytes : Nat)
    (ho : o.op = .call { callee := .builtin .append, args := #[s, x], argTypes := #[t, t] })
    (ht : P.underlying t = some (.slice e)) (hinfo : (P.info? e).map (fun i => (i.zero, i.size, i.bytes)) = some (some (.int k 0), 1, bytes)) (hb0 : 0 < bytes)
    (v : Value) (xs : List Nat) (y : Nat) (hs : a.eval s = v) (B : Nat) (hx : a.eval x = .slice (some ⟨B, 0, none⟩) 1 1) (hB : B = W.heap.size)
    (HO : OwnN k e W base v xs) (HB : Below base w0 W) (hbase : base ≤ W.heap.size) (hl : (xs.length + 1) * bytes ≤ 140737488355328)
    (h : ∀ v1 w1, OwnN k e w1 base v1 (xs ++ [y]) → Below base w0 w1 → wpList P ops Q rest (a.put o.dst v1) w1) :
    wpList P ops Q (o :: rest) a (W.alloc (.cells #[.int k (y : Int)] e)) :=
  print_append base hgd s x t e (.int k 0) bytes ho ht hinfo rfl hb0 v (xs.map (encN k)) (encN k y) hs (hB ▸ hx) rfl (by rw [List.length_map]; exact HO) HB hbase (by rw [List.length_map]; exact hl)
    fun v1 w1 hown hB _ _ => h v1 w1 (by simpa [OwnN] using hown) hB
end
/-- A text's bytes. -/
def strN (xs : List Nat) : ByteArray := Go.strOfNums (xs.map (Int.ofNat ·))
theorem RN.toInt {k : IntKind} {w : World} {A : Option Addr} {xs : List Nat} (h : RN k w A xs) : (Kd.int k).C w A xs.length (xs.map (Int.ofNat ·)) := by
  have hr := Kd.reads_of_C (enc := encN k) (d := 0) (h1 := fun _ => rfl) h
  refine Kd.C_of_reads (d := (0 : Int)) ⟨by simp, hr.2.1, fun hp => ?_⟩
  obtain ⟨ad, e, hc⟩ := hr.2.2 hp
  refine ⟨ad, e, fun j hj => ?_⟩
  rw [hc j hj]
  simp [List.getD_eq_getElem?_getD, hj, encN]
theorem RN.string {P : Program} {w : World} {src dst e : TypeId} {A : Option Addr} {c : Nat} {xs : List Nat} (hs : P.underlying src = some (.slice e)) (he : P.underlying e = some (.int .u8)) (hd : P.underlying dst = some .string)
    (h : RN .u8 w A xs) : (convert src dst (.slice A xs.length c)).run P w = .ok (.string (strN xs)) w := Kd.C_string hs he hd h.toInt
theorem RN.nil (k : IntKind) (w : World) : RN k w none [] := Kd.C_nil _ _
theorem RN.take {k : IntKind} {w : World} {A : Option Addr} {xs : List Nat} (h : RN k w A xs) (m : Nat) (hm : m ≤ xs.length) : RN k w A (xs.take m) := Kd.C_take h hm
theorem info_u8 : (Tryz.prog.info? 5).map (fun i => (i.zero, i.size, i.bytes)) = some (some (.int .u8 0), 1, 1) := by kernel_rfl
end Go.Proofs.YtbcamfbbooggfaaGreat.F
end

section
/- Words for walks: rows of rows of bytes; rows that live on beside what is written. -/
namespace Go.Proofs.YtbcamfbbooggfaaGreat.F
open Go.RowKit Go.Proofs.YtbcamfbbooggfaaGreatW.PrintWords

theorem add_blk (a : Addr) (n : Nat) : (a.add n).block = a.block := by unfold Addr.add; split <;> rfl
theorem cell_move {W W' : World} {a : Addr} (h : W'.heap[a.block]? = W.heap[a.block]?) : W'.cell? a = W.cell? a := by simp [World.cell?, h]
theorem RN.move {k : IntKind} {W W' : World} {A : Option Addr} {xs : List Nat} (h : RN k W A xs) (hm : ∀ a, A = some a → W'.heap[a.block]? = W.heap[a.block]?) : RN k W' A xs := by
  have hr := Kd.reads_of_C (enc := encN k) (d := 0) (h1 := fun _ => rfl) h
  refine Kd.C_of_reads (d := 0) ⟨hr.1, hr.2.1, fun hp => ?_⟩
  obtain ⟨ad, e, hc⟩ := hr.2.2 hp
  refine ⟨ad, e, fun j hj => ?_⟩
  have hq : W'.cell? (ad.add j) = W.cell? (ad.add j) := cell_move (by rw [add_blk]; exact hm ad e)
  exact hq.trans (hc j hj)
theorem OwnN.move {k : IntKind} {e : TypeId} {W W' : World} {base : Nat} {v : Value} {xs : List Nat} (h : OwnN k e W base v xs) (hm : ∀ b, v.ownBlock = some b → W'.heap[b]? = W.heap[b]?) : OwnN k e W' base v xs := own_move h hm
theorem OwnN.typed {k : IntKind} {e : TypeId} {W : World} {base : Nat} {v : Value} {xs : List Nat} (h : OwnN k e W base v xs) : ∀ b, v.ownBlock = some b → base ≤ b ∧ b < W.heap.size ∧ ∃ cs, W.heap[b]? = some (.cells cs e (0, 0)) := by
  intro b hb
  refine ⟨own_base h b hb, own_lt h b hb, ?_⟩
  rcases h.2 with ⟨rfl, _⟩ | ⟨g, cap, cur, rfl, _, hh, _⟩
  · simp [Value.ownBlock] at hb
  · have : g = b := by simpa [Value.ownBlock] using hb
    subst this
    exact ⟨_, hh⟩


section
variable {P : Program} {ops : Array Oper} {rest : List Oper} {o : Oper} {a : Act} {Q : Exit → Act → World → Prop}
/-- A row that is read, behind a row of the call's own. -/
theorem append_NN {W : World} (base : Nat) (hgd : o.guard = none) (s x : Operand) (t e : TypeId) (k : IntKind) (bytes : Nat)
    (ho : o.op = .call { callee := .builtin .append, args := #[s, x], argTypes := #[t, t] })
    (ht : P.underlying t = some (.slice e)) (hinfo : (P.info? e).map (fun i => (i.zero, i.size, i.bytes)) = some (some (.int k 0), 1, bytes)) (hb0 : 0 < bytes)
    (v : Value) (xs ys : List Nat) (A : Option Addr) (c : Nat) (hs : a.eval s = v) (hx : a.eval x = .slice A ys.length c)
    (HO : OwnN k e W base v xs) (HR : RN k W A ys) (hbase : base ≤ W.heap.size) (hl : (xs.length + ys.length) * bytes ≤ 140737488355328)
    (h : ∀ v1 w1, OwnN k e w1 base v1 (xs ++ ys) → W.grownBy w1 v.ownBlock → (v1.ownBlock = v.ownBlock ∨ ∃ b, v1.ownBlock = some b ∧ W.heap.size ≤ b) → wpList P ops Q rest (a.put o.dst v1) w1) :
    wpList P ops Q (o :: rest) a W :=
  print_append_row_of (w0 := W) (encN k) 0 base hgd s x t e (.int k 0) bytes ho ht hinfo rfl hb0 (fun _ => rfl) v xs ys A ys.length c hs hx HO (Kd.reads_of_C HR) (Below.refl _ _) hbase hl
    fun v1 w1 hown _ hg hat => h v1 w1 hown hg hat
end
/-- 'xs[m:]'. -/
theorem RN.cut {P : Program} (t e : TypeId) (k : IntKind) {i : TypeInfo} (ht : P.underlying t = some (.slice e)) (hi : P.info? e = some i) (hsz : i.size = 1) (A : Option Addr) (n c m : Nat) (hm : m ≤ n) :
    ∃ A' : Option Addr, (∀ W : World, (Instr.slice t (.slice A n c) (some (.int .i64 (m : Int))) none none).run P W = .ok (.slice A' (n - m) (c - m)) W) ∧
      (∀ a, A' = some a → ∃ b, A = some b ∧ a.block = b.block) ∧
      ∀ (w : World) (xs : List Nat), xs.length = n → n ≤ c → RN k w A xs → RN k w A' (xs.drop m) := by
  obtain ⟨A', h1, _⟩ := print_cut_of (P := P) (encN k) 0 t e .i64 ht hi hsz A n c m hm
  have hel : P.elem t = e := by simp [Program.elem, ht]
  have hu : P.underlying t = some (.slice (P.elem t)) := by rw [hel]; exact ht
  refine ⟨if c = m then A else A.map (·.add m), fun W => ?_, fun a ha => ?_, fun w xs hx hc h => ?_⟩
  · rw [run_slice_l W t A n c hu .i64 (m : Int) (Int.natCast_nonneg _) (by omega), hel]
    simp [sizeOf, typeInfo, hi, hsz, sliced, Result.andThen]
  · split at ha
    · exact ⟨a, ha, rfl⟩
    · cases A with
      | none => cases ha
      | some b => injection ha with ha; exact ⟨b, rfl, by rw [← ha, add_blk]⟩
  · have hr := (Kd.reads_of_C (enc := encN k) (d := 0) (h1 := fun _ => rfl) h).drop_ (c := c) m (by omega) (by omega)
    unfold RN
    rw [List.length_drop]
    exact Kd.C_of_reads hr
theorem info_u8' : ∃ i, Tryz.prog.info? 5 = some i ∧ i.size = 1 := by
  obtain ⟨i, hi, hz⟩ := Option.map_eq_some_iff.1 info_u8
  simp only [Prod.mk.injEq] at hz
  exact ⟨i, hi, hz.2.1⟩
/-- What a slice of slices of bytes reads as. -/
def RR (W : World) (A : Option Addr) (css : List (List Nat)) : Prop :=
  css.length ≤ 9223372036854775807 ∧ (0 < css.length → ∃ ad, A = some ad ∧ ∀ i (h : i < css.length), ∃ A' c', W.cell? (ad.add i) = some (.slice A' css[i].length c') ∧ css[i].length ≤ c' ∧ RN .u8 W A' css[i])
theorem RR.at {W : World} {A : Option Addr} {css : List (List Nat)} (h : RR W A css) (i : Nat) (hi : i < css.length) : ∃ ad A' c', A = some ad ∧ W.cell? (ad.add i) = some (.slice A' css[i].length c') ∧ css[i].length ≤ c' ∧ RN .u8 W A' css[i] := by
  obtain ⟨ad, e, hc⟩ := h.2 (by omega)
  obtain ⟨A', c', h1, h2, h3⟩ := hc i hi
  exact ⟨ad, A', c', e, h1, h2, h3⟩
theorem RR.below {W W' : World} {A : Option Addr} {css : List (List Nat)} (h : RR W A css) (hb : Below W.heap.size W W') : RR W' A css := by
  refine ⟨h.1, fun hp => ?_⟩
  obtain ⟨ad, e, hc⟩ := h.2 hp
  refine ⟨ad, e, fun i hi => ?_⟩
  obtain ⟨A', c', h1, h2, h3⟩ := hc i hi
  exact ⟨A', c', (hb.cell (World.block_lt_of_cell? _ _ h1)).trans h1, h2, h3.below hb⟩
theorem RR.max {W : World} {A : Option Addr} {css : List (List Nat)} (h : RR W A css) : (css.length : Int) ≤ 9223372036854775807 := by have := h.1; omega
theorem RR.nil (W : World) : RR W none [] := ⟨by simp, fun h => by simp at h⟩

/-- A row of the call's own whose elements are slices of bytes in the blocks of okc. -/
def SRow (W : World) (okc : Nat → Prop) (base e : Nat) (v : Value) (css : List (List Nat)) : Prop :=
  ∃ vals : List Value, W.ownsRow base e 1 v css.length vals ∧ (∀ k, okc k → k < W.heap.size) ∧ (∀ k, v.ownBlock = some k → ¬ okc k) ∧
    ∀ i (h : i < css.length), ∃ A c, vals[i]? = some (.slice A css[i].length c) ∧ css[i].length ≤ c ∧ RN .u8 W A css[i] ∧ ∀ a, A = some a → okc a.block
theorem SRow.nil (W : World) (base e : Nat) : SRow W (fun _ => False) base e (.slice none 0 0) [] :=
  ⟨[], own_nil _ _ _ _, fun _ h => h.elim, fun _ _ h => h, fun i h => by simp at h⟩
theorem SRow.empty (W : World) (base e : Nat) (hb : base ≤ W.heap.size) : SRow (W.alloc (.cells #[] e)) (fun _ => False) base e (.slice (some ⟨W.heap.size, 0, none⟩) 0 0) [] :=
  ⟨[], own_lit_of (enc := encN .u8) W base e [] hb (by simp), fun _ h => h.elim, fun _ _ h => h, fun i h => by simp at h⟩
theorem SRow.move {W W' : World} {okc : Nat → Prop} {base e : Nat} {v : Value} {css : List (List Nat)} (h : SRow W okc base e v css) (hs : W.heap.size ≤ W'.heap.size)
    (hm : ∀ k, okc k ∨ v.ownBlock = some k → W'.heap[k]? = W.heap[k]?) : SRow W' okc base e v css := by
  obtain ⟨vals, h1, h2, h3, h4⟩ := h
  refine ⟨vals, own_move h1 (fun k hk => hm k (.inr hk)), fun k hk => by have := h2 k hk; omega, h3, fun i hi => ?_⟩
  obtain ⟨A, c, e1, e2, e3, e4⟩ := h4 i hi
  exact ⟨A, c, e1, e2, e3.move (fun a ha => hm _ (.inl (e4 a ha))), e4⟩
theorem SRow.below {W W' : World} {okc : Nat → Prop} {base e : Nat} {v : Value} {css : List (List Nat)} (h : SRow W okc base e v css) (hb : Below W.heap.size W W') : SRow W' okc base e v css := by
  obtain ⟨vals, h1, h2, h3, h4⟩ := h
  exact SRow.move ⟨vals, h1, h2, h3, h4⟩ hb.size (fun k hk => hb.block k (by
    rcases hk with hk | hk
    · exact h2 k hk
    · exact own_lt h1 k hk))
theorem SRow.lower {W : World} {okc : Nat → Prop} {base b e : Nat} {v : Value} {css : List (List Nat)} (h : SRow W okc base e v css) (hb : b ≤ base) : SRow W okc b e v css := by
  obtain ⟨vals, h1, h2⟩ := h
  exact ⟨vals, own_less h1 hb, h2⟩
theorem SRow.reads {W : World} {okc : Nat → Prop} {base e : Nat} {v : Value} {css : List (List Nat)} (h : SRow W okc base e v css) : ∃ A c, v = .slice A css.length c ∧ css.length ≤ c ∧ RR W A css := by
  obtain ⟨vals, h1, h2, h3, h4⟩ := h
  rcases h1.2 with ⟨rfl, h0⟩ | ⟨g, cap, cur, rfl, hb, hh, hc, hm, hsz, htk⟩
  · have : css = [] := List.eq_nil_of_length_eq_zero h0
    subst this
    exact ⟨none, 0, rfl, Nat.le_refl _, RR.nil W⟩
  · refine ⟨_, cap, rfl, hc, by unfold maxLen at hm; omega, fun hp => ⟨_, rfl, fun i hi => ?_⟩⟩
    obtain ⟨A, c, e1, e2, e3, _⟩ := h4 i hi
    exact ⟨A, c, h1.cells (g := g) rfl i _ e1, e2, e3⟩
theorem SRow.typed {W : World} {okc : Nat → Prop} {base e : Nat} {v : Value} {css : List (List Nat)} (h : SRow W okc base e v css) : ∀ b, v.ownBlock = some b → base ≤ b ∧ b < W.heap.size ∧ ∃ cs, W.heap[b]? = some (.cells cs e (0, 0)) := by
  obtain ⟨vals, h1, _⟩ := h
  intro b hb
  refine ⟨own_base h1 b hb, own_lt h1 b hb, ?_⟩
  rcases h1.2 with ⟨rfl, _⟩ | ⟨g, cap, cur, rfl, _, hh, _⟩
  · simp [Value.ownBlock] at hb
  · have : g = b := by simpa [Value.ownBlock] using hb
    subst this
    exact ⟨_, hh⟩
/-- One more element. -/
theorem SRow.snoc {W w1 : World} {okc : Nat → Prop} {base e : Nat} {v v1 : Value} {css : List (List Nat)} {vals : List Value} {A : Option Addr} {c : Nat} {cs : List Nat}
    (h2 : ∀ k, okc k → k < W.heap.size) (h3 : ∀ k, v.ownBlock = some k → ¬ okc k) (hv : vals.length = css.length)
    (h4 : ∀ i (h : i < css.length), ∃ A c, vals[i]? = some (.slice A css[i].length c) ∧ css[i].length ≤ c ∧ RN .u8 W A css[i] ∧ ∀ a, A = some a → okc a.block)
    (hr : RN .u8 W A cs) (hc : cs.length ≤ c) (hA : ∀ a, A = some a → a.block < W.heap.size ∧ v.ownBlock ≠ some a.block)
    (hown : w1.ownsRow base e 1 v1 (vals ++ [Value.slice A cs.length c]).length (vals ++ [Value.slice A cs.length c])) (hg : W.grownBy w1 v.ownBlock) (hat : v1.ownBlock = v.ownBlock ∨ ∃ b, v1.ownBlock = some b ∧ W.heap.size ≤ b) :
    SRow w1 (fun k => okc k ∨ ∃ a, A = some a ∧ k = a.block) base e v1 (css ++ [cs]) := by
  have hkeep : ∀ k, k < W.heap.size → v.ownBlock ≠ some k → w1.heap[k]? = W.heap[k]? := fun k hk hne => hg.block k hk (fun e => hne e.symm)
  refine ⟨vals ++ [Value.slice A cs.length c], by rw [List.length_append, List.length_singleton] at hown ⊢; rw [← hv]; exact hown, ?_, ?_, ?_⟩
  · rintro k (hk | ⟨a, rfl, rfl⟩)
    · have := h2 k hk; have := hg.size; omega
    · have := (hA a rfl).1; have := hg.size; omega
  · rintro k hk (hk' | ⟨a, rfl, rfl⟩)
    · rcases hat with hat | ⟨b, hb, hb2⟩
      · exact h3 k (hat ▸ hk) hk'
      · rw [hb] at hk; injection hk with hk; have := h2 k hk'; omega
    · rcases hat with hat | ⟨b, hb, hb2⟩
      · exact (hA a rfl).2 (hat ▸ hk)
      · rw [hb] at hk; injection hk with hk; have := (hA a rfl).1; omega
  · intro i hi
    by_cases hlt : i < css.length
    · obtain ⟨A', c', e1, e2, e3, e4⟩ := h4 i hlt
      have hgi : (css ++ [cs])[i] = css[i] := List.getElem_append_left hlt
      rw [hgi]
      refine ⟨A', c', by rw [List.getElem?_append_left (by omega)]; exact e1, e2, e3.move (fun a ha => hkeep _ (h2 _ (e4 a ha)) (fun e => h3 _ e (e4 a ha))), fun a ha => .inl (e4 a ha)⟩
    · have : i = css.length := by simp at hi; omega
      subst this
      have hgi : (css ++ [cs])[css.length] = cs := by simp
      rw [hgi]
      refine ⟨A, c, by rw [List.getElem?_append_right (by omega), hv]; simp, hc, hr.move (fun a ha => hkeep _ (hA a ha).1 (hA a ha).2), fun a ha => .inr ⟨a, ha, rfl⟩⟩
section
variable {P : Program} {ops : Array Oper} {rest : List Oper} {o : Oper} {a : Act} {Q : Exit → Act → World → Prop}
theorem append_S {W : World} (base : Nat) (hgd : o.guard = none) (s x : Operand) (t e : TypeId)
    (ho : o.op = .call { callee := .builtin .append, args := #[s, x], argTypes := #[t, t] })
    (ht : P.underlying t = some (.slice e)) (hinfo : (P.info? e).map (fun i => (i.zero, i.size, i.bytes)) = some (some (.slice none 0 0), 1, 24))
    (v : Value) (okc : Nat → Prop) (css : List (List Nat)) (A : Option Addr) (c : Nat) (cs : List Nat) (hs : a.eval s = v) (B : Nat) (hx : a.eval x = .slice (some ⟨B, 0, none⟩) 1 1) (hB : B = W.heap.size)
    (HO : SRow W okc base e v css) (hr : RN .u8 W A cs) (hc : cs.length ≤ c) (hA : ∀ a, A = some a → a.block < W.heap.size ∧ v.ownBlock ≠ some a.block) (hbase : base ≤ W.heap.size) (hl : (css.length + 1) * 24 ≤ 140737488355328)
    (h : ∀ v1 w1, SRow w1 (fun k => okc k ∨ ∃ a, A = some a ∧ k = a.block) base e v1 (css ++ [cs]) → W.grownBy w1 v.ownBlock → (v1.ownBlock = v.ownBlock ∨ ∃ b, v1.ownBlock = some b ∧ W.heap.size ≤ b) → wpList P ops Q rest (a.put o.dst v1) w1) :
    wpList P ops Q (o :: rest) a (W.alloc (.cells #[.slice A cs.length c] e)) := by
  obtain ⟨vals, h1, h2, h3, h4⟩ := HO
  have hv : vals.length = css.length := by have := h1.1; omega
  exact print_append (w0 := W) base hgd s x t e (.slice none 0 0) 24 ho ht hinfo rfl (by decide) v vals (.slice A cs.length c) hs (hB ▸ hx) rfl (by rw [hv]; exact h1) (Below.refl _ _) hbase (by rw [hv]; exact hl)
    fun v1 w1 hown _ hg hat => h v1 w1 (SRow.snoc h2 h3 hv h4 hr hc hA hown hg hat) hg hat
end
theorem info_bytes : (Tryz.prog.info? 25).map (fun i => (i.zero, i.size, i.bytes)) = some (some (.slice none 0 0), 1, 24) := by kernel_rfl
end Go.Proofs.YtbcamfbbooggfaaGreat.F
end

section
/- Words for pack's walks: rows of cells, the packer. -/
set_option linter.unusedVariables false
set_option linter.unusedSimpArgs false
namespace Go.Proofs.YtbcamfbbooggfaaGreat.F
open Go.RowKit Go.Proofs.YtbcamfbbooggfaaGreatW.PrintWords

/-- The blocks outside S are as they were. -/
structure Gr (S : Nat → Prop) (W W' : World) : Prop where
  os : W'.os = W.os
  tape : W'.tape = W.tape
  output : W'.output = W.output
  size : W.heap.size ≤ W'.heap.size
  block : ∀ k, k < W.heap.size → ¬ S k → W'.heap[k]? = W.heap[k]?
theorem Gr.refl (S : Nat → Prop) (W : World) : Gr S W W := ⟨rfl, rfl, rfl, Nat.le_refl _, fun _ _ _ => rfl⟩
theorem Gr.trans {S S' : Nat → Prop} {a b c : World} (h : Gr S a b) (k : Gr S' b c) (hs : ∀ x, x < a.heap.size → S' x → S x) : Gr S a c :=
  ⟨k.os.trans h.os, k.tape.trans h.tape, k.output.trans h.output, Nat.le_trans h.size k.size, fun i hi hn => (k.block i (Nat.lt_of_lt_of_le hi h.size) (fun hh => hn (hs i hi hh))).trans (h.block i hi hn)⟩
theorem Gr.mono {S S' : Nat → Prop} {a b : World} (h : Gr S a b) (hs : ∀ x, x < a.heap.size → S x → S' x) : Gr S' a b := ⟨h.os, h.tape, h.output, h.size, fun i hi hn => h.block i hi (fun hh => hn (hs i hi hh))⟩
theorem Gr.below {S : Nat → Prop} {a b : World} {B : Nat} (h : Gr S a b) (hB : B ≤ a.heap.size) (hs : ∀ x, S x → B ≤ x) : Below B a b := ⟨h.os, h.tape, h.output, h.size, fun k hk => h.block k (by omega) (fun hh => by have := hs k hh; omega)⟩
theorem Gr.of_below {W W' : World} (S : Nat → Prop) (h : Below W.heap.size W W') : Gr S W W' := ⟨h.os, h.tape, h.output, h.size, fun k hk _ => h.block k hk⟩
theorem Gr.setCell {S : Nat → Prop} (W : World) (p : Addr) (u : Value) (hs : S p.block) : Gr S W (W.setCell p u) :=
  ⟨rfl, rfl, rfl, by simp, fun k hk hn => Below.heap_setCell W p u k (fun e => hn (e ▸ hs))⟩

/-- What a slice of n elements reads as, cell by cell; its block is of cells of type t. -/
def RV (t : TypeId) (W : World) (A : Option Addr) (n : Nat) (flat : List Value) : Prop :=
  n ≤ 9223372036854775807 ∧ (0 < n → ∃ g o, A = some ⟨g, o, none⟩ ∧ (∃ cs x, W.heap[g]? = some (.cells cs t x)) ∧ ∀ j u, flat[j]? = some u → W.cell? ⟨g, o + j, none⟩ = some u)
theorem RV.move {t : TypeId} {W W' : World} {A : Option Addr} {n : Nat} {flat : List Value} (h : RV t W A n flat) (hm : ∀ (g : Nat) (cs : Array Value) (x : Nat × Nat), W.heap[g]? = some (Obj.cells cs t x) → W'.heap[g]? = W.heap[g]?) : RV t W' A n flat := by
  refine ⟨h.1, fun hp => ?_⟩
  obtain ⟨g, o, e, ⟨cs, x, hh⟩, hc⟩ := h.2 hp
  exact ⟨g, o, e, ⟨cs, x, (hm _ _ _ hh).trans hh⟩, fun j u hu => (cell_move (a := ⟨g, o + j, none⟩) (hm _ _ _ hh)).trans (hc j u hu)⟩
theorem RV.below {t : TypeId} {W W' : World} {A : Option Addr} {n : Nat} {flat : List Value} (h : RV t W A n flat) (hb : Below W.heap.size W W') : RV t W' A n flat :=
  h.move (fun g cs x hh => hb.block g (Array.getElem?_eq_some_iff.1 hh).1)
theorem RV.nil (t : TypeId) (W : World) (A : Option Addr) (flat : List Value) : RV t W A 0 flat := ⟨by omega, fun h => by omega⟩

/-- A slot: its sum's bytes, where it begins, how long it is. -/
abbrev Sl := List Nat × Nat × Nat
def slCells (s : Sl) : List Value := s.1.map (encN .u8) ++ [.int .i64 (s.2.1 : Nat), .int .i64 (s.2.2 : Nat)]
def flatS (l : List Sl) : List Value := l.flatMap slCells
theorem slCells_len {s : Sl} (h : s.1.length = 32) : (slCells s).length = 34 := by simp [slCells, h]
theorem flatS_append (l m : List Sl) : flatS (l ++ m) = flatS l ++ flatS m := by simp [flatS]
theorem flatS_len : ∀ {l : List Sl}, (∀ s ∈ l, s.1.length = 32) → (flatS l).length = l.length * 34
  | [], _ => rfl
  | s :: l, h => by
    have := flatS_len (l := l) (fun x hx => h x (by simp [hx]))
    have h1 := slCells_len (h s (by simp))
    rw [show flatS (s :: l) = slCells s ++ flatS l by simp [flatS], List.length_append, this, h1, List.length_cons]
    omega

section
variable (sum : List Nat → List Nat)
/-- The slots of chunks that lie one behind the other from a place on. -/
def slotsFrom (at' : Nat) : List (List Nat) → List Sl
  | [] => []
  | p :: r => (sum p, at', p.length) :: slotsFrom (at' + p.length) r
theorem slotsFrom_len : ∀ (at' : Nat) (l : List (List Nat)), (slotsFrom sum at' l).length = l.length
  | _, [] => rfl
  | a, p :: r => by simp [slotsFrom, slotsFrom_len _ r]
theorem slotsFrom_snoc : ∀ (at' : Nat) (l : List (List Nat)) (p : List Nat), slotsFrom sum at' (l ++ [p]) = slotsFrom sum at' l ++ [(sum p, at' + l.flatten.length, p.length)]
  | a, [], p => by simp [slotsFrom]
  | a, q :: r, p => by simp [slotsFrom, slotsFrom_snoc _ r p]; omega
theorem slotsFrom_get : ∀ (at' : Nat) (l : List (List Nat)) (i : Nat) (h : i < l.length), (slotsFrom sum at' l)[i]? = some (sum l[i], at' + (l.take i).flatten.length, l[i].length)
  | a, p :: r, 0, _ => by simp [slotsFrom]
  | a, p :: r, i + 1, h => by
    have := slotsFrom_get (a + p.length) r i (by simpa using h)
    simp [slotsFrom, this]
    omega
end

/-- Which packers there are: at most 64 chunks, each of 1 to 512 bytes, bytes all. -/
def Chunks (L : List (List Nat)) : Prop := L.length ≤ 64 ∧ ∀ p ∈ L, 1 ≤ p.length ∧ p.length ≤ 512 ∧ ∀ x ∈ p, x < 256
theorem Chunks.flat {L : List (List Nat)} (h : Chunks L) : L.flatten.length ≤ 32768 ∧ ∀ x ∈ L.flatten, x < 256 := by
  refine ⟨?_, fun x hx => ?_⟩
  · have : ∀ (l : List (List Nat)), (∀ p ∈ l, p.length ≤ 512) → l.flatten.length ≤ l.length * 512 := by
      intro l
      induction l with
      | nil => simp
      | cons p r ih =>
        intro hh
        have h1 := hh p (by simp)
        have h2 := ih (fun q hq => hh q (by simp [hq]))
        simp only [List.flatten_cons, List.length_append, List.length_cons]
        omega
    have h1 := this L (fun p hp => (h.2 p hp).2.1)
    have h2 := h.1
    omega
  · obtain ⟨p, hp, hx⟩ := List.mem_flatten.1 hx
    exact (h.2 p hp).2.2 x hx
end Go.Proofs.YtbcamfbbooggfaaGreat.F

/- The program's packer: its block; made, asked how much room, how many. -/
set_option linter.unusedVariables false
set_option linter.unusedSimpArgs false
namespace Go.Proofs.YtbcamfbbooggfaaGreat.F
open Go.RowKit Go.Proofs.YtbcamfbbooggfaaGreatW.PrintWords

section
variable (sum : List Nat → List Nat)
/-- The program's packer of chunks L. -/
def PK (W : World) (b id wide : Nat) (L : List (List Nat)) : Prop :=
  ∃ A c A2 c2 F, F = L.flatten ∧ W.heap[b]? = some (.cells #[.int .i64 (id : Nat), .int .i64 (wide : Nat), .slice A L.length c, .slice A2 F.length c2] 115 (0, 0)) ∧
    RV 117 W A L.length (flatS (slotsFrom sum 128 L)) ∧ RV 5 W A2 F.length (F.map (encN .u8)) ∧ L.length ≤ c ∧ F.length ≤ c2
theorem PK.move {W W' : World} {b id wide : Nat} {L : List (List Nat)} (h : PK sum W b id wide L) (hm : ∀ (g : Nat) (cs : Array Value) (t : Nat) (x : Nat × Nat), (t = 117 ∨ t = 5 ∨ t = 115 ∧ g = b) → W.heap[g]? = some (Obj.cells cs t x) → W'.heap[g]? = W.heap[g]?) : PK sum W' b id wide L := by
  obtain ⟨A, c, A2, c2, F, hF, h1, h2, h3, h4, h5⟩ := h
  exact ⟨A, c, A2, c2, F, hF, (hm _ _ _ _ (.inr (.inr ⟨rfl, rfl⟩)) h1).trans h1, h2.move (fun g cs x hh => hm g cs _ x (.inl rfl) hh), h3.move (fun g cs x hh => hm g cs _ x (.inr (.inl rfl)) hh), h4, h5⟩
theorem PK.below {W W' : World} {b id wide : Nat} {L : List (List Nat)} (h : PK sum W b id wide L) (hb : Below W.heap.size W W') : PK sum W' b id wide L := h.move sum (fun g cs t x _ hh => hb.block g (Array.getElem?_eq_some_iff.1 hh).1)
theorem PK.lt {W : World} {b id wide : Nat} {L : List (List Nat)} (h : PK sum W b id wide L) : b < W.heap.size := by obtain ⟨A, c, A2, c2, F, hF, h1, _⟩ := h; exact (Array.getElem?_eq_some_iff.1 h1).1
set_option maxHeartbeats 1000000 in
theorem New_c (id wide : Nat) (w : World) (h1 : id < 4096) (h2 : 4 ≤ wide) (h3 : wide ≤ 64) :
    Calls Tryz.prog 13 #[.int .i64 (id : Nat), .int .i64 (wide : Nat)] w fun e w' => ∃ b, e = .returned (.tuple #[.pointer (some ⟨b, 0, none⟩), .int .i64 0]) ∧ w.heap.size ≤ b ∧ PK sum w' b id wide [] ∧ Below w.heap.size w w' := by
  have d1 : decide ((id : Int) < 0) = false := decide_eq_false (by omega)
  have d2 : decide ((4096 : Int) ≤ (id : Int)) = false := decide_eq_false (by omega)
  have d3 : decide ((wide : Int) < 4) = false := decide_eq_false (by omega)
  have d4 : decide ((64 : Int) < (wide : Int)) = false := decide_eq_false (by omega)
  have hpk : PK sum (w.alloc (.cells #[.int .i64 (id : Nat), .int .i64 (wide : Nat), .slice none 0 0, .slice none 0 0] 115)) w.heap.size id wide [] :=
    ⟨none, 0, none, 0, [], rfl, heap_alloc_new w _, RV.nil _ _ _ _, RV.nil _ _ _ _, by simp, by simp⟩
  have HP := Lib.hid hpk
  clear hpk
  go_enter Tryz.func13, Tryz.ntmps13
  go_wp2_with fail
  go_ret2
  exact ⟨_, rfl, Nat.le_refl _, HP.out, (Below.refl _ _).alloc (Nat.le_refl _) _⟩
theorem PLen_c (b id wide : Nat) (L : List (List Nat)) (w : World) (h : PK sum w b id wide L) :
    Calls Tryz.prog 28 #[.pointer (some ⟨b, 0, none⟩)] w fun e w' => e = .returned (.int .i64 (L.length : Nat)) ∧ w' = w := by
  obtain ⟨A, c, A2, c2, F, hF, h1, _⟩ := h
  have c2 : w.cell? ⟨b, 2, none⟩ = some (.slice A L.length c) := by rw [cell_of_row _ _ _ _ _ _ h1]; rfl
  go_enter Tryz.func28, Tryz.ntmps28
  go_wp2_with fail
  go_ret
  exact ⟨rfl, rfl⟩
end
end Go.Proofs.YtbcamfbbooggfaaGreat.F

/- How much room a packer has. -/
set_option linter.unusedVariables false
set_option linter.unusedSimpArgs false
namespace Go.Proofs.YtbcamfbbooggfaaGreat.F
open Go.RowKit Go.Proofs.YtbcamfbbooggfaaGreatW.PrintWords

/-- How many bytes the next chunk may have: of n chunks of d bytes all together. -/
def roomN (wide n d : Nat) : Nat := if n = 64 then 0 else min 512 ((wide - 1) * 128 - d - 34 * (n + 1))
section
variable (sum : List Nat → List Nat)
set_option maxHeartbeats 1000000 in
theorem Room_c (b id wide : Nat) (L : List (List Nat)) (w : World) (h : PK sum w b id wide L) (hw1 : 1 ≤ wide) (hw2 : wide ≤ 64) (hL : L.length ≤ 64) (hF : L.flatten.length ≤ 32768) :
    Calls Tryz.prog 12 #[.pointer (some ⟨b, 0, none⟩)] w fun e w' => e = .returned (.int .i64 (roomN wide L.length L.flatten.length : Nat)) ∧ Below w.heap.size w w' := by
  obtain ⟨A, c, A2, c2, F, hFF, h1, h2, h3, h4, h5⟩ := h
  rw [← hFF] at hF ⊢
  have k1 : w.cell? ⟨b, 1, none⟩ = some (.int .i64 (wide : Nat)) := by rw [cell_of_row _ _ _ _ _ _ h1]; rfl
  have k2 : w.cell? ⟨b, 2, none⟩ = some (.slice A L.length c) := by rw [cell_of_row _ _ _ _ _ _ h1]; rfl
  have k3 : w.cell? ⟨b, 3, none⟩ = some (.slice A2 F.length c2) := by rw [cell_of_row _ _ _ _ _ _ h1]; rfl
  obtain ⟨n, hn⟩ : ∃ n, L.length = n := ⟨_, rfl⟩
  obtain ⟨d, hd⟩ : ∃ d, F.length = d := ⟨_, rfl⟩
  rw [hn] at k2 hL ⊢
  rw [hd] at k3 hF ⊢
  have HB := Lib.hid (Below.refl w.heap.size w)
  clear h1 h2 h3 h4 h5 hn hd hFF
  by_cases h6 : n = 64
  · have e1 : ((n : Int) == 64) = true := by rw [beq_iff_eq]; omega
    have hr : roomN wide n d = 0 := by unfold roomN; rw [if_pos h6]
    have HR := Lib.hid hr
    clear hr
    go_enter Tryz.func12, Tryz.ntmps12
    go_wp2_with fail
    go_ret
    rw [HR.out]
    exact ⟨rfl, HB.out⟩
  · have e1 : ((n : Int) == 64) = false := by rw [beq_eq_false_iff_ne]; omega
    have w1 : IntKind.i64.wrap ((wide : Int) - 1) = (wide : Int) - 1 := by rw [IntKind.wrap_i64]; omega
    have w2 : IntKind.i64.wrap (((wide : Int) - 1) * 128) = ((wide : Int) - 1) * 128 := by rw [IntKind.wrap_i64]; omega
    have w3 : IntKind.i64.wrap (((wide : Int) - 1) * 128 - d) = ((wide : Int) - 1) * 128 - d := by rw [IntKind.wrap_i64]; omega
    have w4 : IntKind.i64.wrap ((n : Int) + 1) = (n : Int) + 1 := by rw [IntKind.wrap_i64]; omega
    have w5 : IntKind.i64.wrap (34 * ((n : Int) + 1)) = 34 * ((n : Int) + 1) := by rw [IntKind.wrap_i64]; omega
    have w6 : IntKind.i64.wrap (((wide : Int) - 1) * 128 - d - 34 * ((n : Int) + 1)) = ((wide : Int) - 1) * 128 - d - 34 * ((n : Int) + 1) := by rw [IntKind.wrap_i64]; omega
    have hr : roomN wide n d = min 512 ((wide - 1) * 128 - d - 34 * (n + 1)) := by unfold roomN; rw [if_neg h6]
    have HR := Lib.hid hr
    clear hr
    go_enter Tryz.func12, Tryz.ntmps12
    go_wp2_with fail
    go_quiet (fail)
    go_wp2_with fail
    all_goals
      go_ret
      rw [HR.out]
      exact ⟨by
        show Ending.returned (Value.int .i64 _) = Ending.returned (Value.int .i64 _)
        simp only [Ending.returned.injEq, Value.int.injEq, true_and]
        clear w1 w2 w3 w4 w5 w6 e1
        first
          | omega
          | (rename_i hy; split at hy <;> omega), pw_below_drewN HB.out _⟩
end
end Go.Proofs.YtbcamfbbooggfaaGreat.F

/- The document's packer: its block; made; do chunks fit. -/
set_option linter.unusedVariables false
set_option linter.unusedSimpArgs false
namespace Go.Proofs.YtbcamfbbooggfaaGreat.F
open Go.RowKit Go.Proofs.YtbcamfbbooggfaaGreatW.PrintWords

/-- Bytes as a string. -/
def bstr (p : List Nat) : ByteArray := ⟨(p.map fun x => UInt8.ofNat x).toArray⟩
theorem flat_take (L : List (List Nat)) (i : Nat) (h : i < L.length) : (L.take (i + 1)).flatten.length = (L.take i).flatten.length + L[i].length := by
  rw [List.take_succ_eq_append_getElem h, List.flatten_append, List.length_append]
  simp
theorem flat_take_le (L : List (List Nat)) (i : Nat) : (L.take i).flatten.length ≤ L.flatten.length := by
  conv => rhs; rw [← List.take_append_drop i L, List.flatten_append, List.length_append]
  omega
end Go.Proofs.YtbcamfbbooggfaaGreat.F

/- A nil packer; a chunk that can't be added. -/
set_option linter.unusedVariables false
set_option linter.unusedSimpArgs false
namespace Go.Proofs.YtbcamfbbooggfaaGreat.F
open Go.RowKit Go.Proofs.YtbcamfbbooggfaaGreatW.PrintWords

section
variable (sum : List Nat → List Nat)
/-- What adding a chunk of m bytes to n chunks of d bytes answers. -/
def addErr (wide n d m : Nat) : Int := if m < 1 ∨ 512 < m then 2 else if n = 64 then 6 else if roomN wide n d < m then 8 else 0
set_option maxHeartbeats 1000000 in
theorem Add_bad (b id wide : Nat) (L : List (List Nat)) (A : Option Addr) (c m : Nat) (w : World) (h : PK sum w b id wide L) (hw1 : 1 ≤ wide) (hw2 : wide ≤ 64) (hL : L.length ≤ 64) (hF : L.flatten.length ≤ 32768) (hm : m ≤ 9223372036854775807) (hbad : addErr wide L.length L.flatten.length m ≠ 0) :
    Calls Tryz.prog 14 #[.pointer (some ⟨b, 0, none⟩), .slice A m c] w fun e w' => e = .returned (.tuple #[.int .i64 0, .int .i64 (addErr wide L.length L.flatten.length m)]) ∧ Below w.heap.size w w' := by
  have hro := Room_c sum b id wide L w h hw1 hw2 hL hF
  obtain ⟨A0, c0, A2, c2, F, hFF, h1, h2, h3, h4, h5⟩ := h
  have k2 : w.cell? ⟨b, 2, none⟩ = some (.slice A0 L.length c0) := by rw [cell_of_row _ _ _ _ _ _ h1]; rfl
  obtain ⟨n, hn⟩ : ∃ n, L.length = n := ⟨_, rfl⟩
  obtain ⟨d, hd⟩ : ∃ d, L.flatten.length = d := ⟨_, rfl⟩
  rw [hn] at k2 hL hro hbad ⊢
  rw [hd] at hF hro hbad ⊢
  obtain ⟨r, hr⟩ : ∃ r, roomN wide n d = r := ⟨_, rfl⟩
  obtain ⟨E, hE⟩ : ∃ E, addErr wide n d m = E := ⟨_, rfl⟩
  rw [hr] at hro
  rw [hE] at hbad ⊢
  unfold addErr at hE
  rw [hr] at hE
  have HRO := Lib.hid hro
  have HB := Lib.hid (Below.refl w.heap.size w)
  clear h1 h2 h3 h4 h5 hn hd hFF hro hr
  by_cases g1 : m < 1
  · have d1 : decide ((m : Int) < 1) = true := decide_eq_true (by omega)
    rw [if_pos (.inl g1)] at hE
    subst hE
    go_enter Tryz.func14, Tryz.ntmps14
    go_wp2_with fail
    go_ret2
    exact ⟨rfl, HB.out⟩
  · have d1 : decide ((m : Int) < 1) = false := decide_eq_false (by omega)
    by_cases g2 : 512 < m
    · have d2 : decide ((512 : Int) < (m : Int)) = true := decide_eq_true (by omega)
      rw [if_pos (.inr g2)] at hE
      subst hE
      go_enter Tryz.func14, Tryz.ntmps14
      go_wp2_with fail
      go_ret2
      exact ⟨rfl, HB.out⟩
    · have d2 : decide ((512 : Int) < (m : Int)) = false := decide_eq_false (by omega)
      rw [if_neg (by omega)] at hE
      by_cases g3 : n = 64
      · have e1 : ((n : Int) == 64) = true := by rw [beq_iff_eq]; omega
        rw [if_pos g3] at hE
        subst hE
        go_enter Tryz.func14, Tryz.ntmps14
        go_wp2_with fail
        go_ret2
        exact ⟨rfl, HB.out⟩
      · have e1 : ((n : Int) == 64) = false := by rw [beq_eq_false_iff_ne]; omega
        rw [if_neg g3] at hE
        by_cases g4 : r < m
        · have d4 : decide ((r : Int) < (m : Int)) = true := decide_eq_true (by omega)
          rw [if_pos g4] at hE
          subst hE
          go_enter Tryz.func14, Tryz.ntmps14
          go_wp2_with fail
          refine HRO.out.mono ?_
          rintro e w2 ⟨rfl, hb2⟩
          have HB2 := Lib.hid hb2
          clear hb2
          go_wp2_with fail
          go_ret2
          exact ⟨rfl, HB2.out⟩
        · rw [if_neg g4] at hE
          exact absurd hE.symm hbad
end
end Go.Proofs.YtbcamfbbooggfaaGreat.F

/- A number of a few bytes, by the document. -/
set_option linter.unusedVariables false
set_option linter.unusedSimpArgs false
namespace Go.Proofs.YtbcamfbbooggfaaGreat.F
open Go.RowKit Go.Proofs.YtbcamfbbooggfaaGreatW.PrintWords

/-- The number that bytes say. -/
def bigV (xs : List Nat) : Nat := xs.foldl (fun n x => 256 * n + x) 0
theorem bigV_snoc (xs : List Nat) (x : Nat) : bigV (xs ++ [x]) = 256 * bigV xs + x := by simp [bigV, List.foldl_append]
theorem bigV_lt : ∀ (n : Nat) (xs : List Nat), xs.length = n → (∀ x ∈ xs, x < 256) → bigV xs < 256 ^ n := by
  intro n
  induction n with
  | zero => intro xs h _; rw [List.length_eq_zero_iff.1 h]; decide
  | succ n ih =>
    intro xs h hx
    obtain ⟨ys, y, rfl⟩ : ∃ ys y, xs = ys ++ [y] := ⟨xs.dropLast, xs.getLast (by intro e; simp [e] at h), (List.dropLast_concat_getLast _).symm⟩
    have h1 := ih ys (by simpa using h) (fun x hh => hx x (by simp [hh]))
    have h2 := hx y (by simp)
    rw [bigV_snoc, Nat.pow_succ]
    omega
end Go.Proofs.YtbcamfbbooggfaaGreat.F
end
