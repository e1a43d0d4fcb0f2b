/- Words for pack's walks: rows of cells, the packer. -/
import Derived.Test.YtejmklfhcealnaaB
import Derived.Laws.OwnMore
import Derived.BigQuiet
set_option linter.unusedVariables false
set_option linter.unusedSimpArgs false
namespace Go.Proofs.Ytejmklfhcealnaa.F
open Go.RowKit Go.Proofs.YtejmklfhcealnaaW.PrintWords

theorem add_blk (a : Addr) (n : Nat) : (a.add n).block = a.block := by unfold Addr.add; split <;> rfl
theorem cell_move {W W' : World} {a : Addr} (h : W'.heap[a.block]? = W.heap[a.block]?) : W'.cell? a = W.cell? a := by simp [World.cell?, h]
/-- The blocks outside S are as they were. -/
structure Gr (S : Nat → Prop) (W W' : World) : Prop where
  os : W'.os = W.os
  tape : W'.tape = W.tape
  output : W'.output = W.output
  size : W.heap.size ≤ W'.heap.size
  block : ∀ k, k < W.heap.size → ¬ S k → W'.heap[k]? = W.heap[k]?
theorem Gr.refl (S : Nat → Prop) (W : World) : Gr S W W := ⟨rfl, rfl, rfl, Nat.le_refl _, fun _ _ _ => rfl⟩
theorem Gr.trans {S S' : Nat → Prop} {a b c : World} (h : Gr S a b) (k : Gr S' b c) (hs : ∀ x, x < a.heap.size → S' x → S x) : Gr S a c :=
  ⟨k.os.trans h.os, k.tape.trans h.tape, k.output.trans h.output, Nat.le_trans h.size k.size, fun i hi hn => (k.block i (Nat.lt_of_lt_of_le hi h.size) (fun hh => hn (hs i hi hh))).trans (h.block i hi hn)⟩
theorem Gr.mono {S S' : Nat → Prop} {a b : World} (h : Gr S a b) (hs : ∀ x, x < a.heap.size → S x → S' x) : Gr S' a b := ⟨h.os, h.tape, h.output, h.size, fun i hi hn => h.block i hi (fun hh => hn (hs i hi hh))⟩
theorem Gr.below {S : Nat → Prop} {a b : World} {B : Nat} (h : Gr S a b) (hB : B ≤ a.heap.size) (hs : ∀ x, S x → B ≤ x) : Below B a b := ⟨h.os, h.tape, h.output, h.size, fun k hk => h.block k (by omega) (fun hh => by have := hs k hh; omega)⟩
theorem Gr.of_below {W W' : World} (S : Nat → Prop) (h : Below W.heap.size W W') : Gr S W W' := ⟨h.os, h.tape, h.output, h.size, fun k hk _ => h.block k hk⟩
theorem Gr.of_grown {W W' : World} {row : Option Nat} {S : Nat → Prop} (h : W.grownBy W' row) (hs : ∀ k, row = some k → S k) : Gr S W W' := ⟨h.os, h.tape, h.output, h.size, fun k hk hn => h.block k hk (fun e => hn (hs k e.symm))⟩
theorem Gr.setCell {S : Nat → Prop} (W : World) (p : Addr) (u : Value) (hs : S p.block) : Gr S W (W.setCell p u) :=
  ⟨rfl, rfl, rfl, by simp, fun k hk hn => Below.heap_setCell W p u k (fun e => hn (e ▸ hs))⟩

/-- What a slice of n elements reads as, cell by cell; its block is of cells of type t. -/
def RV (t : TypeId) (W : World) (A : Option Addr) (n : Nat) (flat : List Value) : Prop :=
  n ≤ 9223372036854775807 ∧ (0 < n → ∃ g o, A = some ⟨g, o, none⟩ ∧ (∃ cs x, W.heap[g]? = some (.cells cs t x)) ∧ ∀ j u, flat[j]? = some u → W.cell? ⟨g, o + j, none⟩ = some u)
theorem RV.move {t : TypeId} {W W' : World} {A : Option Addr} {n : Nat} {flat : List Value} (h : RV t W A n flat) (hm : ∀ (g : Nat) (cs : Array Value) (x : Nat × Nat), W.heap[g]? = some (Obj.cells cs t x) → W'.heap[g]? = W.heap[g]?) : RV t W' A n flat := by
  refine ⟨h.1, fun hp => ?_⟩
  obtain ⟨g, o, e, ⟨cs, x, hh⟩, hc⟩ := h.2 hp
  exact ⟨g, o, e, ⟨cs, x, (hm _ _ _ hh).trans hh⟩, fun j u hu => (cell_move (a := ⟨g, o + j, none⟩) (hm _ _ _ hh)).trans (hc j u hu)⟩
theorem RV.below {t : TypeId} {W W' : World} {A : Option Addr} {n : Nat} {flat : List Value} (h : RV t W A n flat) (hb : Below W.heap.size W W') : RV t W' A n flat :=
  h.move (fun g cs x hh => hb.block g (Array.getElem?_eq_some_iff.1 hh).1)
theorem RV.nil (t : TypeId) (W : World) (A : Option Addr) (flat : List Value) : RV t W A 0 flat := ⟨by omega, fun h => by omega⟩

/-- A slot: its sum's bytes, where it begins, how long it is. -/
abbrev Sl := List Nat × Nat × Nat
def slCells (s : Sl) : List Value := s.1.map (encN .u8) ++ [.int .i64 (s.2.1 : Nat), .int .i64 (s.2.2 : Nat)]
def flatS (l : List Sl) : List Value := l.flatMap slCells
theorem slCells_len {s : Sl} (h : s.1.length = 32) : (slCells s).length = 34 := by simp [slCells, h]
theorem flatS_append (l m : List Sl) : flatS (l ++ m) = flatS l ++ flatS m := by simp [flatS]
theorem flatS_len : ∀ {l : List Sl}, (∀ s ∈ l, s.1.length = 32) → (flatS l).length = l.length * 34
  | [], _ => rfl
  | s :: l, h => by
    have := flatS_len (l := l) (fun x hx => h x (by simp [hx]))
    have h1 := slCells_len (h s (by simp))
    rw [show flatS (s :: l) = slCells s ++ flatS l by simp [flatS], List.length_append, this, h1, List.length_cons]
    omega

section
variable (sum : List Nat → List Nat)
/-- The slots of chunks that lie one behind the other from a place on. -/
def slotsFrom (at' : Nat) : List (List Nat) → List Sl
  | [] => []
  | p :: r => (sum p, at', p.length) :: slotsFrom (at' + p.length) r
theorem slotsFrom_len : ∀ (at' : Nat) (l : List (List Nat)), (slotsFrom sum at' l).length = l.length
  | _, [] => rfl
  | a, p :: r => by simp [slotsFrom, slotsFrom_len _ r]
theorem slotsFrom_snoc : ∀ (at' : Nat) (l : List (List Nat)) (p : List Nat), slotsFrom sum at' (l ++ [p]) = slotsFrom sum at' l ++ [(sum p, at' + l.flatten.length, p.length)]
  | a, [], p => by simp [slotsFrom]
  | a, q :: r, p => by simp [slotsFrom, slotsFrom_snoc _ r p]; omega
theorem slotsFrom_get : ∀ (at' : Nat) (l : List (List Nat)) (i : Nat) (h : i < l.length), (slotsFrom sum at' l)[i]? = some (sum l[i], at' + (l.take i).flatten.length, l[i].length)
  | a, p :: r, 0, _ => by simp [slotsFrom]
  | a, p :: r, i + 1, h => by
    have := slotsFrom_get (a + p.length) r i (by simpa using h)
    simp [slotsFrom, this]
    omega
end

/-- Which packers there are: at most 64 chunks, each of 1 to 512 bytes, bytes all. -/
def Chunks (L : List (List Nat)) : Prop := L.length ≤ 64 ∧ ∀ p ∈ L, 1 ≤ p.length ∧ p.length ≤ 512 ∧ ∀ x ∈ p, x < 256
theorem Chunks.flat {L : List (List Nat)} (h : Chunks L) : L.flatten.length ≤ 32768 ∧ ∀ x ∈ L.flatten, x < 256 := by
  refine ⟨?_, fun x hx => ?_⟩
  · have : ∀ (l : List (List Nat)), (∀ p ∈ l, p.length ≤ 512) → l.flatten.length ≤ l.length * 512 := by
      intro l
      induction l with
      | nil => simp
      | cons p r ih =>
        intro hh
        have h1 := hh p (by simp)
        have h2 := ih (fun q hq => hh q (by simp [hq]))
        simp only [List.flatten_cons, List.length_append, List.length_cons]
        omega
    have h1 := this L (fun p hp => (h.2 p hp).2.1)
    have h2 := h.1
    omega
  · obtain ⟨p, hp, hx⟩ := List.mem_flatten.1 hx
    exact (h.2 p hp).2.2 x hx
end Go.Proofs.Ytejmklfhcealnaa.F

/- The program's packer: its block; made, asked how much room, how many. -/
set_option linter.unusedVariables false
set_option linter.unusedSimpArgs false
namespace Go.Proofs.Ytejmklfhcealnaa.F
open Go.RowKit Go.Proofs.YtejmklfhcealnaaW.PrintWords

section
variable (sum : List Nat → List Nat)
/-- The program's packer of chunks L. -/
def PK (W : World) (b id wide : Nat) (L : List (List Nat)) : Prop :=
  ∃ A c A2 c2 F, F = L.flatten ∧ W.heap[b]? = some (.cells #[.int .i64 (id : Nat), .int .i64 (wide : Nat), .slice A L.length c, .slice A2 F.length c2] 67 (0, 0)) ∧
    RV 38 W A L.length (flatS (slotsFrom sum 128 L)) ∧ RV 5 W A2 F.length (F.map (encN .u8)) ∧ L.length ≤ c ∧ F.length ≤ c2
theorem PK.move {W W' : World} {b id wide : Nat} {L : List (List Nat)} (h : PK sum W b id wide L) (hm : ∀ (g : Nat) (cs : Array Value) (t : Nat) (x : Nat × Nat), (t = 38 ∨ t = 5 ∨ t = 67 ∧ g = b) → W.heap[g]? = some (Obj.cells cs t x) → W'.heap[g]? = W.heap[g]?) : PK sum W' b id wide L := by
  obtain ⟨A, c, A2, c2, F, hF, h1, h2, h3, h4, h5⟩ := h
  exact ⟨A, c, A2, c2, F, hF, (hm _ _ _ _ (.inr (.inr ⟨rfl, rfl⟩)) h1).trans h1, h2.move (fun g cs x hh => hm g cs _ x (.inl rfl) hh), h3.move (fun g cs x hh => hm g cs _ x (.inr (.inl rfl)) hh), h4, h5⟩
theorem PK.below {W W' : World} {b id wide : Nat} {L : List (List Nat)} (h : PK sum W b id wide L) (hb : Below W.heap.size W W') : PK sum W' b id wide L := h.move sum (fun g cs t x _ hh => hb.block g (Array.getElem?_eq_some_iff.1 hh).1)
theorem PK.lt {W : World} {b id wide : Nat} {L : List (List Nat)} (h : PK sum W b id wide L) : b < W.heap.size := by obtain ⟨A, c, A2, c2, F, hF, h1, _⟩ := h; exact (Array.getElem?_eq_some_iff.1 h1).1
theorem PK.other {W W' : World} {b b' id wide : Nat} {L : List (List Nat)} {cs : Array Value} (h : PK sum W b id wide L) (hb : W.heap[b']? = some (.cells cs 67 (0, 0))) (hne : b ≠ b') (hg : Gr (fun k => k = b') W W') : PK sum W' b id wide L :=
  h.move sum (fun g cs' t x ht hh => hg.block g (Array.getElem?_eq_some_iff.1 hh).1 (fun e => by
    subst e
    rw [hb] at hh
    injection hh with hh
    injection hh with _ h2 _
    rcases ht with ht | ht | ⟨_, ht⟩
    · rw [ht] at h2; exact absurd h2 (by decide)
    · rw [ht] at h2; exact absurd h2 (by decide)
    · exact hne ht.symm))
set_option maxHeartbeats 1000000 in
theorem New_c (id wide : Nat) (w : World) (h1 : id < 4096) (h2 : 4 ≤ wide) (h3 : wide ≤ 64) :
    Calls Try.prog 27 #[.int .i64 (id : Nat), .int .i64 (wide : Nat)] w fun e w' => ∃ b, e = .returned (.tuple #[.pointer (some ⟨b, 0, none⟩), .int .i64 0]) ∧ w.heap.size ≤ b ∧ PK sum w' b id wide [] ∧ Below w.heap.size w w' := by
  have d1 : decide ((id : Int) < 0) = false := decide_eq_false (by omega)
  have d2 : decide ((4096 : Int) ≤ (id : Int)) = false := decide_eq_false (by omega)
  have d3 : decide ((wide : Int) < 4) = false := decide_eq_false (by omega)
  have d4 : decide ((64 : Int) < (wide : Int)) = false := decide_eq_false (by omega)
  have hpk : PK sum (w.alloc (.cells #[.int .i64 (id : Nat), .int .i64 (wide : Nat), .slice none 0 0, .slice none 0 0] 67)) w.heap.size id wide [] :=
    ⟨none, 0, none, 0, [], rfl, heap_alloc_new w _, RV.nil _ _ _ _, RV.nil _ _ _ _, by simp, by simp⟩
  have HP := Lib.hid hpk
  clear hpk
  go_enter Try.func27, Try.ntmps27
  go_wp2_with fail
  go_ret2
  exact ⟨_, rfl, Nat.le_refl _, HP.out, (Below.refl _ _).alloc (Nat.le_refl _) _⟩
theorem New_bad (id wide : Int) (w : World) (h : id < 0 ∨ 4096 ≤ id ∨ wide < 4 ∨ 64 < wide) :
    Calls Try.prog 27 #[.int .i64 id, .int .i64 wide] w fun e w' => e = .returned (.tuple #[.pointer none, .int .i64 2]) ∧ w' = w := by
  by_cases h1 : id < 0
  · have d1 : decide (id < 0) = true := decide_eq_true h1
    go_enter Try.func27, Try.ntmps27
    go_wp2_with fail
    go_ret2
    exact ⟨rfl, rfl⟩
  · have d1 : decide (id < 0) = false := decide_eq_false h1
    by_cases h2 : 4096 ≤ id
    · have d2 : decide (4096 ≤ id) = true := decide_eq_true h2
      go_enter Try.func27, Try.ntmps27
      go_wp2_with fail
      go_ret2
      exact ⟨rfl, rfl⟩
    · have d2 : decide (4096 ≤ id) = false := decide_eq_false h2
      by_cases h3 : wide < 4
      · have d3 : decide (wide < 4) = true := decide_eq_true h3
        go_enter Try.func27, Try.ntmps27
        go_wp2_with fail
        go_ret2
        exact ⟨rfl, rfl⟩
      · have d3 : decide (wide < 4) = false := decide_eq_false h3
        have d4 : decide (64 < wide) = true := decide_eq_true (by omega)
        go_enter Try.func27, Try.ntmps27
        go_wp2_with fail
        go_ret2
        exact ⟨rfl, rfl⟩
theorem PLen_c (b id wide : Nat) (L : List (List Nat)) (w : World) (h : PK sum w b id wide L) :
    Calls Try.prog 19 #[.pointer (some ⟨b, 0, none⟩)] w fun e w' => e = .returned (.int .i64 (L.length : Nat)) ∧ w' = w := by
  obtain ⟨A, c, A2, c2, F, hF, h1, _⟩ := h
  have c2 : w.cell? ⟨b, 2, none⟩ = some (.slice A L.length c) := by rw [cell_of_row _ _ _ _ _ _ h1]; rfl
  go_enter Try.func19, Try.ntmps19
  go_wp2_with fail
  go_ret
  exact ⟨rfl, rfl⟩
theorem PLen_nil (w : World) : Calls Try.prog 19 #[.pointer none] w fun e w' => e = .returned (.int .i64 0) ∧ w' = w := by
  go_enter Try.func19, Try.ntmps19
  go_wp2_with fail
  go_ret
  exact ⟨rfl, rfl⟩
theorem PFork_c (b id wide : Nat) (L : List (List Nat)) (w : World) (h : PK sum w b id wide L) :
    Calls Try.prog 13 #[.pointer (some ⟨b, 0, none⟩)] w fun e w' => ∃ b', e = .returned (.pointer (some ⟨b', 0, none⟩)) ∧ w.heap.size ≤ b' ∧ PK sum w' b' id wide L ∧ Below w.heap.size w w' := by
  have hlt := h.lt
  obtain ⟨A, c, A2, c2, F, hF, h1, h2, h3, h4, h5⟩ := h
  have k0 : w.cell? ⟨b, 0, none⟩ = some (.int .i64 (id : Nat)) := by rw [cell_of_row _ _ _ _ _ _ h1]; rfl
  have k1 : w.cell? ⟨b, 1, none⟩ = some (.int .i64 (wide : Nat)) := by rw [cell_of_row _ _ _ _ _ _ h1]; rfl
  have k2 : w.cell? ⟨b, 2, none⟩ = some (.slice A L.length c) := by rw [cell_of_row _ _ _ _ _ _ h1]; rfl
  have k3 : w.cell? ⟨b, 3, none⟩ = some (.slice A2 F.length c2) := by rw [cell_of_row _ _ _ _ _ _ h1]; rfl
  have hb : Below w.heap.size w (w.alloc (.cells #[.int .i64 (id : Nat), .int .i64 (wide : Nat), .slice A L.length c, .slice A2 F.length c2] 67)) := (Below.refl _ _).alloc (Nat.le_refl _) _
  have hpk : PK sum (w.alloc (.cells #[.int .i64 (id : Nat), .int .i64 (wide : Nat), .slice A L.length c, .slice A2 F.length c2] 67)) w.heap.size id wide L :=
    ⟨A, c, A2, c2, F, hF, heap_alloc_new w _, h2.below hb, h3.below hb, h4, h5⟩
  have HP := Lib.hid hpk
  have HB := Lib.hid hb
  have hne : ¬ (w.heap.size = b) := by omega
  clear hpk hb h1 h2 h3 hF
  go_enter Try.func13, Try.ntmps13
  go_wp2_with fail
  go_ret
  exact ⟨_, rfl, Nat.le_refl _, HP.out, HB.out⟩
theorem PFork_nil (w : World) : Calls Try.prog 13 #[.pointer none] w fun e w' => e = .returned (.pointer none) ∧ w' = w := by
  go_enter Try.func13, Try.ntmps13
  go_wp2_with fail
  go_ret
  exact ⟨rfl, rfl⟩
end
end Go.Proofs.Ytejmklfhcealnaa.F

/- How much room a packer has. -/
set_option linter.unusedVariables false
set_option linter.unusedSimpArgs false
namespace Go.Proofs.Ytejmklfhcealnaa.F
open Go.RowKit Go.Proofs.YtejmklfhcealnaaW.PrintWords

/-- How many bytes the next chunk may have: of n chunks of d bytes all together. -/
def roomN (wide n d : Nat) : Nat := if n = 64 then 0 else min 512 ((wide - 1) * 128 - d - 34 * (n + 1))
theorem Room_nil (w : World) : Calls Try.prog 12 #[.pointer none] w fun e w' => e = .returned (.int .i64 0) ∧ w' = w := by
  go_enter Try.func12, Try.ntmps12
  go_wp2_with fail
  go_ret
  exact ⟨rfl, rfl⟩
section
variable (sum : List Nat → List Nat)
set_option maxHeartbeats 1000000 in
theorem Room_c (b id wide : Nat) (L : List (List Nat)) (w : World) (h : PK sum w b id wide L) (hw1 : 1 ≤ wide) (hw2 : wide ≤ 64) (hL : L.length ≤ 64) (hF : L.flatten.length ≤ 32768) :
    Calls Try.prog 12 #[.pointer (some ⟨b, 0, none⟩)] w fun e w' => e = .returned (.int .i64 (roomN wide L.length L.flatten.length : Nat)) ∧ Below w.heap.size w w' := by
  obtain ⟨A, c, A2, c2, F, hFF, h1, h2, h3, h4, h5⟩ := h
  rw [← hFF] at hF ⊢
  have k1 : w.cell? ⟨b, 1, none⟩ = some (.int .i64 (wide : Nat)) := by rw [cell_of_row _ _ _ _ _ _ h1]; rfl
  have k2 : w.cell? ⟨b, 2, none⟩ = some (.slice A L.length c) := by rw [cell_of_row _ _ _ _ _ _ h1]; rfl
  have k3 : w.cell? ⟨b, 3, none⟩ = some (.slice A2 F.length c2) := by rw [cell_of_row _ _ _ _ _ _ h1]; rfl
  obtain ⟨n, hn⟩ : ∃ n, L.length = n := ⟨_, rfl⟩
  obtain ⟨d, hd⟩ : ∃ d, F.length = d := ⟨_, rfl⟩
  rw [hn] at k2 hL ⊢
  rw [hd] at k3 hF ⊢
  have HB := Lib.hid (Below.refl w.heap.size w)
  clear h1 h2 h3 h4 h5 hn hd hFF
  by_cases h6 : n = 64
  · have e1 : ((n : Int) == 64) = true := by rw [beq_iff_eq]; omega
    have hr : roomN wide n d = 0 := by unfold roomN; rw [if_pos h6]
    have HR := Lib.hid hr
    clear hr
    go_enter Try.func12, Try.ntmps12
    go_wp2_with fail
    go_ret
    rw [HR.out]
    exact ⟨rfl, HB.out⟩
  · have e1 : ((n : Int) == 64) = false := by rw [beq_eq_false_iff_ne]; omega
    have w1 : IntKind.i64.wrap ((wide : Int) - 1) = (wide : Int) - 1 := by rw [IntKind.wrap_i64]; omega
    have w2 : IntKind.i64.wrap (((wide : Int) - 1) * 128) = ((wide : Int) - 1) * 128 := by rw [IntKind.wrap_i64]; omega
    have w3 : IntKind.i64.wrap (((wide : Int) - 1) * 128 - d) = ((wide : Int) - 1) * 128 - d := by rw [IntKind.wrap_i64]; omega
    have w4 : IntKind.i64.wrap ((n : Int) + 1) = (n : Int) + 1 := by rw [IntKind.wrap_i64]; omega
    have w5 : IntKind.i64.wrap (34 * ((n : Int) + 1)) = 34 * ((n : Int) + 1) := by rw [IntKind.wrap_i64]; omega
    have w6 : IntKind.i64.wrap (((wide : Int) - 1) * 128 - d - 34 * ((n : Int) + 1)) = ((wide : Int) - 1) * 128 - d - 34 * ((n : Int) + 1) := by rw [IntKind.wrap_i64]; omega
    have hr : roomN wide n d = min 512 ((wide - 1) * 128 - d - 34 * (n + 1)) := by unfold roomN; rw [if_neg h6]
    have HR := Lib.hid hr
    clear hr
    go_enter Try.func12, Try.ntmps12
    go_wp2_with fail
    go_quiet (fail)
    go_wp2_with fail
    all_goals
      go_ret
      rw [HR.out]
      exact ⟨by
        show Ending.returned (Value.int .i64 _) = Ending.returned (Value.int .i64 _)
        simp only [Ending.returned.injEq, Value.int.injEq, true_and]
        clear w1 w2 w3 w4 w5 w6 e1
        first
          | omega
          | (rename_i hy; split at hy <;> omega), pw_below_drewN HB.out _⟩
end
end Go.Proofs.Ytejmklfhcealnaa.F

/- The document's packer: its block; made; do chunks fit. -/
set_option linter.unusedVariables false
set_option linter.unusedSimpArgs false
namespace Go.Proofs.Ytejmklfhcealnaa.F
open Go.RowKit Go.Proofs.YtejmklfhcealnaaW.PrintWords

/-- Bytes as a string. -/
def bstr (p : List Nat) : ByteArray := ⟨(p.map fun x => UInt8.ofNat x).toArray⟩
theorem bstr_size (p : List Nat) : (bstr p).size = p.length := by simp [bstr, ByteArray.size]
/-- The document's packer of chunks L. -/
def PY (W : World) (b id wide : Nat) (L : List (List Nat)) : Prop :=
  ∃ A c, W.heap[b]? = some (.cells #[.int .i64 (id : Nat), .int .i64 (wide : Nat), .slice A L.length c] 46 (0, 0)) ∧ RV 9 W A L.length (L.map fun p => .string (bstr p)) ∧ L.length ≤ c
theorem PY.move {W W' : World} {b id wide : Nat} {L : List (List Nat)} (h : PY W b id wide L) (hm : ∀ (g : Nat) (cs : Array Value) (t : Nat) (x : Nat × Nat), (t = 9 ∨ t = 46 ∧ g = b) → W.heap[g]? = some (Obj.cells cs t x) → W'.heap[g]? = W.heap[g]?) : PY W' b id wide L := by
  obtain ⟨A, c, h1, h2, h4⟩ := h
  exact ⟨A, c, (hm _ _ _ _ (.inr ⟨rfl, rfl⟩) h1).trans h1, h2.move (fun g cs x hh => hm g cs _ x (.inl rfl) hh), h4⟩
theorem PY.below {W W' : World} {b id wide : Nat} {L : List (List Nat)} (h : PY W b id wide L) (hb : Below W.heap.size W W') : PY W' b id wide L := h.move (fun g cs t x _ hh => hb.block g (Array.getElem?_eq_some_iff.1 hh).1)
theorem PY.lt {W : World} {b id wide : Nat} {L : List (List Nat)} (h : PY W b id wide L) : b < W.heap.size := by obtain ⟨A, c, h1, _⟩ := h; exact (Array.getElem?_eq_some_iff.1 h1).1
set_option maxHeartbeats 1000000 in
theorem New_r (id wide : Nat) (w : World) (h1 : id < 4096) (h2 : 4 ≤ wide) (h3 : wide ≤ 64) :
    Calls Try.prog 28 #[.int .i64 (id : Nat), .int .i64 (wide : Nat)] w fun e w' => ∃ b, e = .returned (.tuple #[.pointer (some ⟨b, 0, none⟩), .int .i64 0]) ∧ w.heap.size ≤ b ∧ PY w' b id wide [] ∧ Below w.heap.size w w' := by
  have d1 : decide ((id : Int) < 0) = false := decide_eq_false (by omega)
  have d2 : decide ((4095 : Int) < (id : Int)) = false := decide_eq_false (by omega)
  have d3 : decide ((wide : Int) < 4) = false := decide_eq_false (by omega)
  have d4 : decide ((64 : Int) < (wide : Int)) = false := decide_eq_false (by omega)
  have hpk : PY (w.alloc (.cells #[.int .i64 (id : Nat), .int .i64 (wide : Nat), .slice none 0 0] 46)) w.heap.size id wide [] :=
    ⟨none, 0, heap_alloc_new w _, RV.nil _ _ _ _, by simp⟩
  have HP := Lib.hid hpk
  clear hpk
  go_enter Try.func28, Try.ntmps28
  go_wp2_with fail
  go_ret2
  exact ⟨_, rfl, Nat.le_refl _, HP.out, (Below.refl _ _).alloc (Nat.le_refl _) _⟩
theorem New_r_bad (id wide : Int) (w : World) (h : id < 0 ∨ 4095 < id ∨ wide < 4 ∨ 64 < wide) :
    Calls Try.prog 28 #[.int .i64 id, .int .i64 wide] w fun e w' => e = .returned (.tuple #[.pointer none, .int .i64 2]) ∧ w' = w := by
  by_cases h1 : id < 0
  · have d1 : decide (id < 0) = true := decide_eq_true h1
    go_enter Try.func28, Try.ntmps28
    go_wp2_with fail
    go_ret2
    exact ⟨rfl, rfl⟩
  · have d1 : decide (id < 0) = false := decide_eq_false h1
    by_cases h2 : 4095 < id
    · have d2 : decide (4095 < id) = true := decide_eq_true h2
      go_enter Try.func28, Try.ntmps28
      go_wp2_with fail
      go_ret2
      exact ⟨rfl, rfl⟩
    · have d2 : decide (4095 < id) = false := decide_eq_false h2
      by_cases h3 : wide < 4
      · have d3 : decide (wide < 4) = true := decide_eq_true h3
        go_enter Try.func28, Try.ntmps28
        go_wp2_with fail
        go_ret2
        exact ⟨rfl, rfl⟩
      · have d3 : decide (wide < 4) = false := decide_eq_false h3
        have d4 : decide (64 < wide) = true := decide_eq_true (by omega)
        go_enter Try.func28, Try.ntmps28
        go_wp2_with fail
        go_ret2
        exact ⟨rfl, rfl⟩
theorem RV.strAt {W : World} {A : Option Addr} {L : List (List Nat)} (h : RV 9 W A L.length (L.map fun p => .string (bstr p))) (i : Nat) (hi : i < L.length) : ∃ g o, A = some ⟨g, o, none⟩ ∧ W.cell? ⟨g, o + i, none⟩ = some (.string (bstr L[i])) := by
  obtain ⟨g, o, e, _, hc⟩ := h.2 (by omega)
  exact ⟨g, o, e, hc i _ (by simp [hi])⟩
theorem flat_take (L : List (List Nat)) (i : Nat) (h : i < L.length) : (L.take (i + 1)).flatten.length = (L.take i).flatten.length + L[i].length := by
  rw [List.take_succ_eq_append_getElem h, List.flatten_append, List.length_append]
  simp
theorem flat_take_le (L : List (List Nat)) (i : Nat) : (L.take i).flatten.length ≤ L.flatten.length := by
  conv => rhs; rw [← List.take_append_drop i L, List.flatten_append, List.length_append]
  omega
set_option maxHeartbeats 1000000 in
theorem Fits_c (A : Option Addr) (c wide : Nat) (L : List (List Nat)) (w : World) (h : RV 9 w A L.length (L.map fun p => .string (bstr p))) (hw : wide ≤ 100) (hL : L.length ≤ 100) (hF : L.flatten.length ≤ 100000) :
    Calls Try.prog 36 #[.slice A L.length c, .int .i64 (wide : Nat)] w fun e w' => e = .returned (.bool (decide (128 + L.flatten.length + 34 * L.length ≤ 128 * wide))) ∧ w' = w := by
  have HR := Lib.hid h
  have HF := Lib.hid hF
  have HL := Lib.hid (flat_take_le L)
  clear h hF
  go_enter Try.func36, Try.ntmps36
  go_wp2_with fail
  go_loop [5, 6] (fun vn vi => ∃ i n : Nat, i ≤ L.length ∧ vi = .int .i64 i ∧ vn = .int .i64 n ∧ n = 128 + (L.take i).flatten.length + 34 * i) (fun _ vi => L.length - (intOf vi).toNat)
  case atStart => exact ⟨0, 128, by omega, rfl, rfl, by simp⟩
  case round =>
    obtain ⟨i, n, hi, rfl, rfl, hnn0⟩ := hrel
    have HN := Lib.hid hnn0
    clear hnn0
    have hn : n ≤ 110000 := by have := HN.out; have := HL.out i; have := HF.out; omega
    by_cases hlt : i < L.length
    · have d1 : decide ((i : Int) < L.length) = true := decide_eq_true (by omega)
      obtain ⟨g, o, e, a1⟩ := HR.out.strAt i hlt
      subst e
      have i0 : (0 : Int) ≤ (i : Int) := by omega
      have i1 : (i : Int) < (L.length : Int) := by omega
      have hq := bstr_size L[i]
      have hft := flat_take L i hlt
      have hq2 : L[i].length ≤ 100000 := by have := HL.out (i + 1); have := HF.out; omega
      obtain ⟨q, hqq⟩ : ∃ q, L[i].length = q := ⟨_, rfl⟩
      obtain ⟨s, hs⟩ : ∃ s, bstr L[i] = s := ⟨_, rfl⟩
      rw [hqq] at hft hq hq2
      rw [hs] at a1 hq
      have HFT := Lib.hid hft
      clear hft hqq hs
      go_wp2_with fail
      exact ⟨⟨i + 1, n + q + 34, by omega, by go_num, by go_num, by have := HN.out; have := HFT.out; omega⟩, by simp [intOf]; omega⟩
    · have d1 : decide ((i : Int) < L.length) = false := decide_eq_false (by omega)
      obtain rfl : i = L.length := by omega
      have hnn := HN.out
      rw [List.take_length] at hnn
      have HNN := Lib.hid hnn
      clear hnn HN
      obtain ⟨r, hr⟩ : ∃ r, decide ((n : Int) ≤ 128 * (wide : Int)) = r := ⟨_, rfl⟩
      have HRR := Lib.hid hr
      go_wp2_with fail
      go_ret
      refine ⟨?_, rfl⟩
      rw [← HRR.out]
      have := HNN.out
      show Ending.returned (Value.bool _) = Ending.returned (Value.bool _)
      congr 2
      rw [decide_eq_decide]
      have hsum := List.length_flatten (L := L)
      omega
end Go.Proofs.Ytejmklfhcealnaa.F

/- A nil packer; a chunk that can't be added. -/
set_option linter.unusedVariables false
set_option linter.unusedSimpArgs false
namespace Go.Proofs.Ytejmklfhcealnaa.F
open Go.RowKit Go.Proofs.YtejmklfhcealnaaW.PrintWords

theorem Add_nil (v : Value) (w : World) : Calls Try.prog 14 #[.pointer none, v] w fun e w' => e = .returned (.tuple #[.int .i64 0, .int .i64 1]) ∧ w' = w := by
  go_enter Try.func14, Try.ntmps14
  go_wp2_with fail
  go_ret2
  exact ⟨rfl, rfl⟩
theorem Chunk_nil (n : Int) (w : World) : Calls Try.prog 22 #[.pointer none, .int .i64 n] w fun e w' => e = .returned (.tuple #[.slice none 0 0, .int .i64 1]) ∧ w' = w := by
  go_enter Try.func22, Try.ntmps22
  go_wp2_with fail
  go_ret2
  exact ⟨rfl, rfl⟩
theorem Sums_nil (w : World) : Calls Try.prog 18 #[.pointer none] w fun e w' => e = .returned (.slice none 0 0) ∧ w' = w := by
  go_enter Try.func18, Try.ntmps18
  go_wp2_with fail
  go_ret
  exact ⟨rfl, rfl⟩
theorem Bytes_nil (w : World) : Calls Try.prog 11 #[.pointer none] w fun e w' => e = .returned (.slice none 0 0) ∧ w' = w := by
  go_enter Try.func11, Try.ntmps11
  go_wp2_with fail
  go_ret
  exact ⟨rfl, rfl⟩
section
variable (sum : List Nat → List Nat)
/-- What adding a chunk of m bytes to n chunks of d bytes answers. -/
def addErr (wide n d m : Nat) : Int := if m < 1 ∨ 512 < m then 2 else if n = 64 then 6 else if roomN wide n d < m then 8 else 0
set_option maxHeartbeats 1000000 in
theorem Add_bad (b id wide : Nat) (L : List (List Nat)) (A : Option Addr) (c m : Nat) (w : World) (h : PK sum w b id wide L) (hw1 : 1 ≤ wide) (hw2 : wide ≤ 64) (hL : L.length ≤ 64) (hF : L.flatten.length ≤ 32768) (hm : m ≤ 9223372036854775807) (hbad : addErr wide L.length L.flatten.length m ≠ 0) :
    Calls Try.prog 14 #[.pointer (some ⟨b, 0, none⟩), .slice A m c] w fun e w' => e = .returned (.tuple #[.int .i64 0, .int .i64 (addErr wide L.length L.flatten.length m)]) ∧ Below w.heap.size w w' := by
  have hro := Room_c sum b id wide L w h hw1 hw2 hL hF
  obtain ⟨A0, c0, A2, c2, F, hFF, h1, h2, h3, h4, h5⟩ := h
  have k2 : w.cell? ⟨b, 2, none⟩ = some (.slice A0 L.length c0) := by rw [cell_of_row _ _ _ _ _ _ h1]; rfl
  obtain ⟨n, hn⟩ : ∃ n, L.length = n := ⟨_, rfl⟩
  obtain ⟨d, hd⟩ : ∃ d, L.flatten.length = d := ⟨_, rfl⟩
  rw [hn] at k2 hL hro hbad ⊢
  rw [hd] at hF hro hbad ⊢
  obtain ⟨r, hr⟩ : ∃ r, roomN wide n d = r := ⟨_, rfl⟩
  obtain ⟨E, hE⟩ : ∃ E, addErr wide n d m = E := ⟨_, rfl⟩
  rw [hr] at hro
  rw [hE] at hbad ⊢
  unfold addErr at hE
  rw [hr] at hE
  have HRO := Lib.hid hro
  have HB := Lib.hid (Below.refl w.heap.size w)
  clear h1 h2 h3 h4 h5 hn hd hFF hro hr
  by_cases g1 : m < 1
  · have d1 : decide ((m : Int) < 1) = true := decide_eq_true (by omega)
    rw [if_pos (.inl g1)] at hE
    subst hE
    go_enter Try.func14, Try.ntmps14
    go_wp2_with fail
    go_ret2
    exact ⟨rfl, HB.out⟩
  · have d1 : decide ((m : Int) < 1) = false := decide_eq_false (by omega)
    by_cases g2 : 512 < m
    · have d2 : decide ((512 : Int) < (m : Int)) = true := decide_eq_true (by omega)
      rw [if_pos (.inr g2)] at hE
      subst hE
      go_enter Try.func14, Try.ntmps14
      go_wp2_with fail
      go_ret2
      exact ⟨rfl, HB.out⟩
    · have d2 : decide ((512 : Int) < (m : Int)) = false := decide_eq_false (by omega)
      rw [if_neg (by omega)] at hE
      by_cases g3 : n = 64
      · have e1 : ((n : Int) == 64) = true := by rw [beq_iff_eq]; omega
        rw [if_pos g3] at hE
        subst hE
        go_enter Try.func14, Try.ntmps14
        go_wp2_with fail
        go_ret2
        exact ⟨rfl, HB.out⟩
      · have e1 : ((n : Int) == 64) = false := by rw [beq_eq_false_iff_ne]; omega
        rw [if_neg g3] at hE
        by_cases g4 : r < m
        · have d4 : decide ((r : Int) < (m : Int)) = true := decide_eq_true (by omega)
          rw [if_pos g4] at hE
          subst hE
          go_enter Try.func14, Try.ntmps14
          go_wp2_with fail
          refine HRO.out.mono ?_
          rintro e w2 ⟨rfl, hb2⟩
          have HB2 := Lib.hid hb2
          clear hb2
          go_wp2_with fail
          go_ret2
          exact ⟨rfl, HB2.out⟩
        · rw [if_neg g4] at hE
          exact absurd hE.symm hbad
end
end Go.Proofs.Ytejmklfhcealnaa.F

/- A number of a few bytes, by the document. -/
set_option linter.unusedVariables false
set_option linter.unusedSimpArgs false
namespace Go.Proofs.Ytejmklfhcealnaa.F
open Go.RowKit Go.Proofs.YtejmklfhcealnaaW.PrintWords

/-- The number that bytes say. -/
def bigV (xs : List Nat) : Nat := xs.foldl (fun n x => 256 * n + x) 0
theorem bigV_snoc (xs : List Nat) (x : Nat) : bigV (xs ++ [x]) = 256 * bigV xs + x := by simp [bigV, List.foldl_append]
theorem bigV_lt : ∀ (n : Nat) (xs : List Nat), xs.length = n → (∀ x ∈ xs, x < 256) → bigV xs < 256 ^ n := by
  intro n
  induction n with
  | zero => intro xs h _; rw [List.length_eq_zero_iff.1 h]; decide
  | succ n ih =>
    intro xs h hx
    obtain ⟨ys, y, rfl⟩ : ∃ ys y, xs = ys ++ [y] := ⟨xs.dropLast, xs.getLast (by intro e; simp [e] at h), (List.dropLast_concat_getLast _).symm⟩
    have h1 := ih ys (by simpa using h) (fun x hh => hx x (by simp [hh]))
    have h2 := hx y (by simp)
    rw [bigV_snoc, Nat.pow_succ]
    omega
set_option maxHeartbeats 1000000 in
theorem TakeFixed_r (A : Option Addr) (c at' k : Nat) (p : List Nat) (w : World) (hr : RN .u8 w A p) (hp : ∀ x ∈ p, x < 256) (hk1 : 1 ≤ k) (hk4 : k ≤ 4) (hfit : at' + k ≤ p.length) :
    Calls Try.prog 56 #[.slice A p.length c, .int .i64 (at' : Nat), .int .i64 (k : Nat)] w fun e w' => e = .returned (.tuple #[.int .i64 (bigV ((p.drop at').take k) : Nat), .int .i64 ((at' : Int) + k), .int .i64 0]) ∧ w' = w := by
  have hm := hr.max
  have d1 : decide ((k : Int) < 1) = false := decide_eq_false (by omega)
  have d2 : decide ((8 : Int) < k) = false := decide_eq_false (by omega)
  have d3 : decide ((at' : Int) < 0) = false := decide_eq_false (by omega)
  have d4 : decide ((p.length : Int) < (at' : Int)) = false := decide_eq_false (by omega)
  have d5 : decide ((p.length : Int) - (k : Int) < (at' : Int)) = false := decide_eq_false (by omega)
  have HR := Lib.hid hr
  have HPP := Lib.hid hp
  clear hr hp
  go_enter Try.func56, Try.ntmps56
  go_wp2_with fail
  go_loop [9, 10] (fun vn vi => ∃ i n : Nat, i ≤ k ∧ vi = .int .i64 i ∧ vn = .int .i64 n ∧ n = bigV ((p.drop at').take i)) (fun _ vi => k - (intOf vi).toNat)
  case atStart => exact ⟨0, 0, by omega, rfl, rfl, rfl⟩
  case round =>
    obtain ⟨i, n, hi, rfl, rfl, hn0⟩ := hrel
    have hsub : ∀ x ∈ (p.drop at').take i, x < 256 := fun x hx => HPP.out x (List.mem_of_mem_drop (List.mem_of_mem_take hx))
    have hlen : ((p.drop at').take i).length = i := by rw [List.length_take, List.length_drop]; omega
    have hlt0 := bigV_lt i _ hlen hsub
    rw [← hn0] at hlt0
    have HN := Lib.hid hn0
    by_cases hlt : i < k
    · have d6 : decide ((i : Int) < (k : Int)) = true := decide_eq_true (by omega)
      have hpw : (256 : Nat) ^ i ≤ 256 ^ 3 := Nat.pow_le_pow_right (by decide) (by omega)
      have hn3 : n < 16777216 := Nat.lt_of_lt_of_le hlt0 (by simpa using hpw)
      have d7 : decide ((35184372088831 : Int) < (n : Int)) = false := decide_eq_false (by omega)
      have hj : at' + i < p.length := by omega
      obtain ⟨ad, e, hc⟩ := HR.out.at (at' + i) hj
      subst e
      have hx := HPP.out _ (List.getElem_mem hj)
      have hstep : bigV ((p.drop at').take (i + 1)) = 256 * n + p[at' + i] := by
        rw [List.take_succ_eq_append_getElem (by rw [List.length_drop]; omega), bigV_snoc, ← HN.out]
        simp
      have HS := Lib.hid hstep
      obtain ⟨x, hxx⟩ : ∃ x, p[at' + i] = x := ⟨_, rfl⟩
      rw [hxx] at hc hx
      have HX := Lib.hid hxx
      have i0 : (0 : Int) ≤ (at' : Int) + (i : Int) := by omega
      have i1 : (at' : Int) + (i : Int) < (p.length : Int) := by omega
      have i2 : ((at' : Int) + (i : Int)).toNat = at' + i := by omega
      clear hpw hlt0 hn0 hsub hlen hstep hxx
      go_wp2_with fail
      exact ⟨⟨i + 1, 256 * n + x, by omega, by go_num, by go_num, by rw [HS.out, HX.out]⟩, by simp [intOf]; omega⟩
    · have d6 : decide ((i : Int) < (k : Int)) = false := decide_eq_false (by omega)
      obtain rfl : i = k := by omega
      clear hn0 hsub hlen hlt0
      go_wp2_with fail
      go_ret3
      exact ⟨by rw [← HN.out]; rfl, rfl⟩
end Go.Proofs.Ytejmklfhcealnaa.F
