/- Words for walks: rows of rows of bytes; rows that live on beside what is written. -/
import Derived.Test.YtejmklfhcealnaaB
import Derived.Deep.DeepMust
namespace Go.Proofs.Ytejmklfhcealnaa.F
open Go.RowKit Go.Proofs.YtejmklfhcealnaaW.PrintWords

theorem add_blk (a : Addr) (n : Nat) : (a.add n).block = a.block := by unfold Addr.add; split <;> rfl
theorem cell_move {W W' : World} {a : Addr} (h : W'.heap[a.block]? = W.heap[a.block]?) : W'.cell? a = W.cell? a := by simp [World.cell?, h]
theorem RN.move {k : IntKind} {W W' : World} {A : Option Addr} {xs : List Nat} (h : RN k W A xs) (hm : ∀ a, A = some a → W'.heap[a.block]? = W.heap[a.block]?) : RN k W' A xs := by
  have hr := Kd.reads_of_C (enc := encN k) (d := 0) (h1 := fun _ => rfl) h
  refine Kd.C_of_reads (d := 0) ⟨hr.1, hr.2.1, fun hp => ?_⟩
  obtain ⟨ad, e, hc⟩ := hr.2.2 hp
  refine ⟨ad, e, fun j hj => ?_⟩
  have hq : W'.cell? (ad.add j) = W.cell? (ad.add j) := cell_move (by rw [add_blk]; exact hm ad e)
  exact hq.trans (hc j hj)
theorem OwnN.move {k : IntKind} {e : TypeId} {W W' : World} {base : Nat} {v : Value} {xs : List Nat} (h : OwnN k e W base v xs) (hm : ∀ b, v.ownBlock = some b → W'.heap[b]? = W.heap[b]?) : OwnN k e W' base v xs := own_move h hm
theorem OwnN.typed {k : IntKind} {e : TypeId} {W : World} {base : Nat} {v : Value} {xs : List Nat} (h : OwnN k e W base v xs) : ∀ b, v.ownBlock = some b → base ≤ b ∧ b < W.heap.size ∧ ∃ cs, W.heap[b]? = some (.cells cs e (0, 0)) := by
  intro b hb
  refine ⟨own_base h b hb, own_lt h b hb, ?_⟩
  rcases h.2 with ⟨rfl, _⟩ | ⟨g, cap, cur, rfl, _, hh, _⟩
  · simp [Value.ownBlock] at hb
  · have : g = b := by simpa [Value.ownBlock] using hb
    subst this
    exact ⟨_, hh⟩

section
variable {P : Program} {ops : Array Oper} {rest : List Oper} {o : Oper} {a : Act} {Q : Exit → Act → World → Prop}
/-- Behind an append: what was written, and where the row now lies. -/
theorem append_N2 {W : World} (base : Nat) (hgd : o.guard = none) (s x : Operand) (t e : TypeId) (k : IntKind) (bytes : Nat)
    (ho : o.op = .call { callee := .builtin .append, args := #[s, x], argTypes := #[t, t] })
    (ht : P.underlying t = some (.slice e)) (hinfo : (P.info? e).map (fun i => (i.zero, i.size, i.bytes)) = some (some (.int k 0), 1, bytes)) (hb0 : 0 < bytes)
    (v : Value) (xs : List Nat) (y : Nat) (hs : a.eval s = v) (B : Nat) (hx : a.eval x = .slice (some ⟨B, 0, none⟩) 1 1) (hB : B = W.heap.size)
    (HO : OwnN k e W base v xs) (hbase : base ≤ W.heap.size) (hl : (xs.length + 1) * bytes ≤ 140737488355328)
    (h : ∀ v1 w1, OwnN k e w1 base v1 (xs ++ [y]) → W.grownBy w1 v.ownBlock → (v1.ownBlock = v.ownBlock ∨ ∃ b, v1.ownBlock = some b ∧ W.heap.size ≤ b) → wpList P ops Q rest (a.put o.dst v1) w1) :
    wpList P ops Q (o :: rest) a (W.alloc (.cells #[.int k (y : Int)] e)) :=
  print_append (w0 := W) base hgd s x t e (.int k 0) bytes ho ht hinfo rfl hb0 v (xs.map (encN k)) (encN k y) hs (hB ▸ hx) rfl (by rw [List.length_map]; exact HO) (Below.refl _ _) hbase (by rw [List.length_map]; exact hl)
    fun v1 w1 hown _ hg hat => h v1 w1 (by simpa [OwnN] using hown) hg hat
end

section
variable {P : Program} {ops : Array Oper} {rest : List Oper} {o : Oper} {a : Act} {Q : Exit → Act → World → Prop}
/-- A row that is read, behind a row of the call's own. -/
theorem append_NN {W : World} (base : Nat) (hgd : o.guard = none) (s x : Operand) (t e : TypeId) (k : IntKind) (bytes : Nat)
    (ho : o.op = .call { callee := .builtin .append, args := #[s, x], argTypes := #[t, t] })
    (ht : P.underlying t = some (.slice e)) (hinfo : (P.info? e).map (fun i => (i.zero, i.size, i.bytes)) = some (some (.int k 0), 1, bytes)) (hb0 : 0 < bytes)
    (v : Value) (xs ys : List Nat) (A : Option Addr) (c : Nat) (hs : a.eval s = v) (hx : a.eval x = .slice A ys.length c)
    (HO : OwnN k e W base v xs) (HR : RN k W A ys) (hbase : base ≤ W.heap.size) (hl : (xs.length + ys.length) * bytes ≤ 140737488355328)
    (h : ∀ v1 w1, OwnN k e w1 base v1 (xs ++ ys) → W.grownBy w1 v.ownBlock → (v1.ownBlock = v.ownBlock ∨ ∃ b, v1.ownBlock = some b ∧ W.heap.size ≤ b) → wpList P ops Q rest (a.put o.dst v1) w1) :
    wpList P ops Q (o :: rest) a W :=
  print_append_row_of (w0 := W) (encN k) 0 base hgd s x t e (.int k 0) bytes ho ht hinfo rfl hb0 (fun _ => rfl) v xs ys A ys.length c hs hx HO (Kd.reads_of_C HR) (Below.refl _ _) hbase hl
    fun v1 w1 hown _ hg hat => h v1 w1 hown hg hat
end
/-- 'xs[m:]'. -/
theorem RN.cut {P : Program} (t e : TypeId) (k : IntKind) {i : TypeInfo} (ht : P.underlying t = some (.slice e)) (hi : P.info? e = some i) (hsz : i.size = 1) (A : Option Addr) (n c m : Nat) (hm : m ≤ n) :
    ∃ A' : Option Addr, (∀ W : World, (Instr.slice t (.slice A n c) (some (.int .i64 (m : Int))) none none).run P W = .ok (.slice A' (n - m) (c - m)) W) ∧
      (∀ a, A' = some a → ∃ b, A = some b ∧ a.block = b.block) ∧
      ∀ (w : World) (xs : List Nat), xs.length = n → n ≤ c → RN k w A xs → RN k w A' (xs.drop m) := by
  obtain ⟨A', h1, _⟩ := print_cut_of (P := P) (encN k) 0 t e .i64 ht hi hsz A n c m hm
  have hel : P.elem t = e := by simp [Program.elem, ht]
  have hu : P.underlying t = some (.slice (P.elem t)) := by rw [hel]; exact ht
  refine ⟨if c = m then A else A.map (·.add m), fun W => ?_, fun a ha => ?_, fun w xs hx hc h => ?_⟩
  · rw [run_slice_l W t A n c hu .i64 (m : Int) (Int.natCast_nonneg _) (by omega), hel]
    simp [sizeOf, typeInfo, hi, hsz, sliced, Result.andThen]
  · split at ha
    · exact ⟨a, ha, rfl⟩
    · cases A with
      | none => cases ha
      | some b => injection ha with ha; exact ⟨b, rfl, by rw [← ha, add_blk]⟩
  · have hr := (Kd.reads_of_C (enc := encN k) (d := 0) (h1 := fun _ => rfl) h).drop_ (c := c) m (by omega) (by omega)
    unfold RN
    rw [List.length_drop]
    exact Kd.C_of_reads hr
theorem info_u8' : ∃ i, Try.prog.info? 5 = some i ∧ i.size = 1 := by
  obtain ⟨i, hi, hz⟩ := Option.map_eq_some_iff.1 info_u8
  simp only [Prod.mk.injEq] at hz
  exact ⟨i, hi, hz.2.1⟩
/-- What a slice of slices of bytes reads as. -/
def RR (W : World) (A : Option Addr) (css : List (List Nat)) : Prop :=
  css.length ≤ 9223372036854775807 ∧ (0 < css.length → ∃ ad, A = some ad ∧ ∀ i (h : i < css.length), ∃ A' c', W.cell? (ad.add i) = some (.slice A' css[i].length c') ∧ css[i].length ≤ c' ∧ RN .u8 W A' css[i])
theorem RR.at {W : World} {A : Option Addr} {css : List (List Nat)} (h : RR W A css) (i : Nat) (hi : i < css.length) : ∃ ad A' c', A = some ad ∧ W.cell? (ad.add i) = some (.slice A' css[i].length c') ∧ css[i].length ≤ c' ∧ RN .u8 W A' css[i] := by
  obtain ⟨ad, e, hc⟩ := h.2 (by omega)
  obtain ⟨A', c', h1, h2, h3⟩ := hc i hi
  exact ⟨ad, A', c', e, h1, h2, h3⟩
theorem RR.below {W W' : World} {A : Option Addr} {css : List (List Nat)} (h : RR W A css) (hb : Below W.heap.size W W') : RR W' A css := by
  refine ⟨h.1, fun hp => ?_⟩
  obtain ⟨ad, e, hc⟩ := h.2 hp
  refine ⟨ad, e, fun i hi => ?_⟩
  obtain ⟨A', c', h1, h2, h3⟩ := hc i hi
  exact ⟨A', c', (hb.cell (World.block_lt_of_cell? _ _ h1)).trans h1, h2, h3.below hb⟩
theorem RR.max {W : World} {A : Option Addr} {css : List (List Nat)} (h : RR W A css) : (css.length : Int) ≤ 9223372036854775807 := by have := h.1; omega
theorem RR.nil (W : World) : RR W none [] := ⟨by simp, fun h => by simp at h⟩

/-- A row of the call's own whose elements are slices of bytes in the blocks of okc. -/
def SRow (W : World) (okc : Nat → Prop) (base e : Nat) (v : Value) (css : List (List Nat)) : Prop :=
  ∃ vals : List Value, W.ownsRow base e 1 v css.length vals ∧ (∀ k, okc k → k < W.heap.size) ∧ (∀ k, v.ownBlock = some k → ¬ okc k) ∧
    ∀ i (h : i < css.length), ∃ A c, vals[i]? = some (.slice A css[i].length c) ∧ css[i].length ≤ c ∧ RN .u8 W A css[i] ∧ ∀ a, A = some a → okc a.block
theorem SRow.nil (W : World) (base e : Nat) : SRow W (fun _ => False) base e (.slice none 0 0) [] :=
  ⟨[], own_nil _ _ _ _, fun _ h => h.elim, fun _ _ h => h, fun i h => by simp at h⟩
theorem SRow.empty (W : World) (base e : Nat) (hb : base ≤ W.heap.size) : SRow (W.alloc (.cells #[] e)) (fun _ => False) base e (.slice (some ⟨W.heap.size, 0, none⟩) 0 0) [] :=
  ⟨[], own_lit_of (enc := encN .u8) W base e [] hb (by simp), fun _ h => h.elim, fun _ _ h => h, fun i h => by simp at h⟩
theorem SRow.move {W W' : World} {okc : Nat → Prop} {base e : Nat} {v : Value} {css : List (List Nat)} (h : SRow W okc base e v css) (hs : W.heap.size ≤ W'.heap.size)
    (hm : ∀ k, okc k ∨ v.ownBlock = some k → W'.heap[k]? = W.heap[k]?) : SRow W' okc base e v css := by
  obtain ⟨vals, h1, h2, h3, h4⟩ := h
  refine ⟨vals, own_move h1 (fun k hk => hm k (.inr hk)), fun k hk => by have := h2 k hk; omega, h3, fun i hi => ?_⟩
  obtain ⟨A, c, e1, e2, e3, e4⟩ := h4 i hi
  exact ⟨A, c, e1, e2, e3.move (fun a ha => hm _ (.inl (e4 a ha))), e4⟩
theorem SRow.below {W W' : World} {okc : Nat → Prop} {base e : Nat} {v : Value} {css : List (List Nat)} (h : SRow W okc base e v css) (hb : Below W.heap.size W W') : SRow W' okc base e v css := by
  obtain ⟨vals, h1, h2, h3, h4⟩ := h
  exact SRow.move ⟨vals, h1, h2, h3, h4⟩ hb.size (fun k hk => hb.block k (by
    rcases hk with hk | hk
    · exact h2 k hk
    · exact own_lt h1 k hk))
theorem SRow.lower {W : World} {okc : Nat → Prop} {base b e : Nat} {v : Value} {css : List (List Nat)} (h : SRow W okc base e v css) (hb : b ≤ base) : SRow W okc b e v css := by
  obtain ⟨vals, h1, h2⟩ := h
  exact ⟨vals, own_less h1 hb, h2⟩
theorem SRow.reads {W : World} {okc : Nat → Prop} {base e : Nat} {v : Value} {css : List (List Nat)} (h : SRow W okc base e v css) : ∃ A c, v = .slice A css.length c ∧ css.length ≤ c ∧ RR W A css := by
  obtain ⟨vals, h1, h2, h3, h4⟩ := h
  rcases h1.2 with ⟨rfl, h0⟩ | ⟨g, cap, cur, rfl, hb, hh, hc, hm, hsz, htk⟩
  · have : css = [] := List.eq_nil_of_length_eq_zero h0
    subst this
    exact ⟨none, 0, rfl, Nat.le_refl _, RR.nil W⟩
  · refine ⟨_, cap, rfl, hc, by unfold maxLen at hm; omega, fun hp => ⟨_, rfl, fun i hi => ?_⟩⟩
    obtain ⟨A, c, e1, e2, e3, _⟩ := h4 i hi
    exact ⟨A, c, h1.cells (g := g) rfl i _ e1, e2, e3⟩
theorem SRow.typed {W : World} {okc : Nat → Prop} {base e : Nat} {v : Value} {css : List (List Nat)} (h : SRow W okc base e v css) : ∀ b, v.ownBlock = some b → base ≤ b ∧ b < W.heap.size ∧ ∃ cs, W.heap[b]? = some (.cells cs e (0, 0)) := by
  obtain ⟨vals, h1, _⟩ := h
  intro b hb
  refine ⟨own_base h1 b hb, own_lt h1 b hb, ?_⟩
  rcases h1.2 with ⟨rfl, _⟩ | ⟨g, cap, cur, rfl, _, hh, _⟩
  · simp [Value.ownBlock] at hb
  · have : g = b := by simpa [Value.ownBlock] using hb
    subst this
    exact ⟨_, hh⟩
theorem SRow.okc_lt {W : World} {okc : Nat → Prop} {base e : Nat} {v : Value} {css : List (List Nat)} (h : SRow W okc base e v css) : ∀ k, okc k → k < W.heap.size := h.elim fun _ h => h.2.1
/-- One more element. -/
theorem SRow.snoc {W w1 : World} {okc : Nat → Prop} {base e : Nat} {v v1 : Value} {css : List (List Nat)} {vals : List Value} {A : Option Addr} {c : Nat} {cs : List Nat}
    (h2 : ∀ k, okc k → k < W.heap.size) (h3 : ∀ k, v.ownBlock = some k → ¬ okc k) (hv : vals.length = css.length)
    (h4 : ∀ i (h : i < css.length), ∃ A c, vals[i]? = some (.slice A css[i].length c) ∧ css[i].length ≤ c ∧ RN .u8 W A css[i] ∧ ∀ a, A = some a → okc a.block)
    (hr : RN .u8 W A cs) (hc : cs.length ≤ c) (hA : ∀ a, A = some a → a.block < W.heap.size ∧ v.ownBlock ≠ some a.block)
    (hown : w1.ownsRow base e 1 v1 (vals ++ [Value.slice A cs.length c]).length (vals ++ [Value.slice A cs.length c])) (hg : W.grownBy w1 v.ownBlock) (hat : v1.ownBlock = v.ownBlock ∨ ∃ b, v1.ownBlock = some b ∧ W.heap.size ≤ b) :
    SRow w1 (fun k => okc k ∨ ∃ a, A = some a ∧ k = a.block) base e v1 (css ++ [cs]) := by
  have hkeep : ∀ k, k < W.heap.size → v.ownBlock ≠ some k → w1.heap[k]? = W.heap[k]? := fun k hk hne => hg.block k hk (fun e => hne e.symm)
  refine ⟨vals ++ [Value.slice A cs.length c], by rw [List.length_append, List.length_singleton] at hown ⊢; rw [← hv]; exact hown, ?_, ?_, ?_⟩
  · rintro k (hk | ⟨a, rfl, rfl⟩)
    · have := h2 k hk; have := hg.size; omega
    · have := (hA a rfl).1; have := hg.size; omega
  · rintro k hk (hk' | ⟨a, rfl, rfl⟩)
    · rcases hat with hat | ⟨b, hb, hb2⟩
      · exact h3 k (hat ▸ hk) hk'
      · rw [hb] at hk; injection hk with hk; have := h2 k hk'; omega
    · rcases hat with hat | ⟨b, hb, hb2⟩
      · exact (hA a rfl).2 (hat ▸ hk)
      · rw [hb] at hk; injection hk with hk; have := (hA a rfl).1; omega
  · intro i hi
    by_cases hlt : i < css.length
    · obtain ⟨A', c', e1, e2, e3, e4⟩ := h4 i hlt
      have hgi : (css ++ [cs])[i] = css[i] := List.getElem_append_left hlt
      rw [hgi]
      refine ⟨A', c', by rw [List.getElem?_append_left (by omega)]; exact e1, e2, e3.move (fun a ha => hkeep _ (h2 _ (e4 a ha)) (fun e => h3 _ e (e4 a ha))), fun a ha => .inl (e4 a ha)⟩
    · have : i = css.length := by simp at hi; omega
      subst this
      have hgi : (css ++ [cs])[css.length] = cs := by simp
      rw [hgi]
      refine ⟨A, c, by rw [List.getElem?_append_right (by omega), hv]; simp, hc, hr.move (fun a ha => hkeep _ (hA a ha).1 (hA a ha).2), fun a ha => .inr ⟨a, ha, rfl⟩⟩
section
variable {P : Program} {ops : Array Oper} {rest : List Oper} {o : Oper} {a : Act} {Q : Exit → Act → World → Prop}
theorem append_S {W : World} (base : Nat) (hgd : o.guard = none) (s x : Operand) (t e : TypeId)
    (ho : o.op = .call { callee := .builtin .append, args := #[s, x], argTypes := #[t, t] })
    (ht : P.underlying t = some (.slice e)) (hinfo : (P.info? e).map (fun i => (i.zero, i.size, i.bytes)) = some (some (.slice none 0 0), 1, 24))
    (v : Value) (okc : Nat → Prop) (css : List (List Nat)) (A : Option Addr) (c : Nat) (cs : List Nat) (hs : a.eval s = v) (B : Nat) (hx : a.eval x = .slice (some ⟨B, 0, none⟩) 1 1) (hB : B = W.heap.size)
    (HO : SRow W okc base e v css) (hr : RN .u8 W A cs) (hc : cs.length ≤ c) (hA : ∀ a, A = some a → a.block < W.heap.size ∧ v.ownBlock ≠ some a.block) (hbase : base ≤ W.heap.size) (hl : (css.length + 1) * 24 ≤ 140737488355328)
    (h : ∀ v1 w1, SRow w1 (fun k => okc k ∨ ∃ a, A = some a ∧ k = a.block) base e v1 (css ++ [cs]) → W.grownBy w1 v.ownBlock → (v1.ownBlock = v.ownBlock ∨ ∃ b, v1.ownBlock = some b ∧ W.heap.size ≤ b) → wpList P ops Q rest (a.put o.dst v1) w1) :
    wpList P ops Q (o :: rest) a (W.alloc (.cells #[.slice A cs.length c] e)) := by
  obtain ⟨vals, h1, h2, h3, h4⟩ := HO
  have hv : vals.length = css.length := by have := h1.1; omega
  exact print_append (w0 := W) base hgd s x t e (.slice none 0 0) 24 ho ht hinfo rfl (by decide) v vals (.slice A cs.length c) hs (hB ▸ hx) rfl (by rw [hv]; exact h1) (Below.refl _ _) hbase (by rw [hv]; exact hl)
    fun v1 w1 hown _ hg hat => h v1 w1 (SRow.snoc h2 h3 hv h4 hr hc hA hown hg hat) hg hat
end
theorem info_bytes : (Try.prog.info? 27).map (fun i => (i.zero, i.size, i.bytes)) = some (some (.slice none 0 0), 1, 24) := by kernel_rfl
end Go.Proofs.Ytejmklfhcealnaa.F
