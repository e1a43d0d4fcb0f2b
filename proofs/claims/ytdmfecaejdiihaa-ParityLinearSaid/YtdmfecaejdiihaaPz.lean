/- The parity of a sum of rows, by the numbers; three rows of slices at once. -/
import Derived.Test.YtdmfecaejdiihaaPy
set_option linter.unusedVariables false
set_option linter.unusedSimpArgs false
namespace Go.Proofs.Ytdmfecaejdiihaa.F
open Go.RowKit Go.Proofs.YtdmfecaejdiihaaW.PrintWords

def pad20 (l : List Nat) : List Nat := (List.range 20).map fun k => l.getD k 0
def xor20 (a b : List Nat) : List Nat := (List.range 20).map fun k => a.getD k 0 ^^^ b.getD k 0
def rowsP (c : List (List Nat)) (n : Nat) : List (List Nat) := (List.range n).map fun i => pad20 (c.getD i [])
def rowsX (c d : List (List Nat)) (n : Nat) : List (List Nat) := (List.range n).map fun i => xor20 (c.getD i []) (d.getD i [])
theorem gdot_map_xor (f g : Nat → Nat) (hf : ∀ i, f i < 256) (hg : ∀ i, g i < 256) : ∀ (l w : List Nat), gdot (l.map fun i => f i ^^^ g i) w = gdot (l.map f) w ^^^ gdot (l.map g) w
  | [], w => by simp [gdot]
  | i :: l, [] => by simp [gdot]
  | i :: l, y :: w => by
    have ih := gdot_map_xor f g hf hg l w
    show gm (f i ^^^ g i) y ^^^ gdot (l.map fun i => f i ^^^ g i) w = (gm (f i) y ^^^ gdot (l.map f) w) ^^^ (gm (g i) y ^^^ gdot (l.map g) w)
    rw [ih, gm_xor_left y (hf i) (hg i)]
    ac_rfl
theorem colAt_rowsP (c : List (List Nat)) (n j : Nat) (hj : j < 20) : colAt (rowsP c n) j = (List.range n).map fun i => (c.getD i []).getD j 0 := by
  unfold colAt rowsP pad20
  rw [List.map_map]
  apply List.map_congr_left
  intro i _
  simp [List.getD_eq_getElem?_getD, hj]
theorem colAt_rowsX (c d : List (List Nat)) (n j : Nat) (hj : j < 20) : colAt (rowsX c d n) j = (List.range n).map fun i => (c.getD i []).getD j 0 ^^^ (d.getD i []).getD j 0 := by
  unfold colAt rowsX xor20
  rw [List.map_map]
  apply List.map_congr_left
  intro i _
  simp [List.getD_eq_getElem?_getD, hj]
theorem flat_at {c : List (List Nat)} (h : ∀ x ∈ c.flatten, x < 256) (i j : Nat) : (c.getD i []).getD j 0 < 256 := by
  by_cases hi : i < c.length
  · by_cases hj : j < (c.getD i []).length
    · have e : (c.getD i []).getD j 0 = (c.getD i [])[j] := by rw [List.getD_eq_getElem?_getD, List.getElem?_eq_getElem hj]; rfl
      have e2 : c.getD i [] = c[i] := by simp [List.getD_eq_getElem?_getD, hi]
      rw [e]
      refine h _ (List.mem_flatten.2 ⟨c.getD i [], ?_, List.getElem_mem _⟩)
      rw [e2]
      exact List.getElem_mem _
    · rw [show (c.getD i []).getD j 0 = 0 by rw [List.getD_eq_getElem?_getD, List.getElem?_eq_none (by omega)]; rfl]; omega
  · rw [show c.getD i [] = [] by rw [List.getD_eq_getElem?_getD, List.getElem?_eq_none (by omega)]; rfl]; simp
theorem same20 {css : List (List Nat)} (h : ∀ cs ∈ css, cs.length = 20) : wrongV (css.map List.length) = 0 := wrongV_zero (fun a ha b hb => by
  obtain ⟨x, hx, rfl⟩ := List.mem_map.1 ha
  obtain ⟨y, hy, rfl⟩ := List.mem_map.1 hb
  rw [h x hx, h y hy])
/-- The i-th shard of parity. -/
def parOut (X : List (List Nat)) (n k : Nat) : List (List Nat) := (List.range k).map fun i => atV X (List.range n) (n + i) 20
theorem encOut_par (X : List (List Nat)) (k : Nat) (h : ∀ cs ∈ X, cs.length = 20) : encOut X k 20 = parOut X X.length k := by
  unfold encOut
  rw [if_pos (same20 h), ← grp_drop]
  unfold grpR parOut
  apply List.ext_getElem
  · simp
  · intro i h1 h2
    simp
theorem parOut_at (X : List (List Nat)) (n k i : Nat) (h : i < (parOut X n k).length) : (parOut X n k)[i].length = 20 := by simp [parOut, atV]
theorem parOut_xor (c d : List (List Nat)) (n k i j : Nat) (hc : ∀ x ∈ c.flatten, x < 256) (hd : ∀ x ∈ d.flatten, x < 256) (hj : j < 20) (h1 : i < (parOut (rowsP c n) n k).length) (h2 : i < (parOut (rowsP d n) n k).length) (h3 : i < (parOut (rowsX c d n) n k).length) :
    (parOut (rowsX c d n) n k)[i].getD j 0 = (parOut (rowsP c n) n k)[i].getD j 0 ^^^ (parOut (rowsP d n) n k)[i].getD j 0 := by
  have e : ∀ X (h : i < (parOut X n k).length), (parOut X n k)[i].getD j 0 = gdot (colAt X j) (weights (List.range n) (n + i)) := fun X h => by
    simp [parOut, atV, List.getD_eq_getElem?_getD, hj]
  rw [e _ h1, e _ h2, e _ h3, colAt_rowsP _ _ _ hj, colAt_rowsP _ _ _ hj, colAt_rowsX _ _ _ _ hj]
  exact gdot_map_xor (fun i => (c.getD i []).getD j 0) (fun i => (d.getD i []).getD j 0) (fun i => flat_at hc i j) (fun i => flat_at hd i j) _ _

/-- What the three Encodes answer. -/
structure Lin (X Y Z op oq os : List (List Nat)) (n k : Nat) (er : Int) : Prop where
  x : ∀ A c w, RR w A X → Calls Try.prog 9 #[.slice A n c, .int .i64 k] w (EncAns op er w)
  y : ∀ A c w, RR w A Y → Calls Try.prog 9 #[.slice A n c, .int .i64 k] w (EncAns oq er w)
  z : ∀ A c w, RR w A Z → Calls Try.prog 9 #[.slice A n c, .int .i64 k] w (EncAns os er w)
  lq : oq.length = op.length
  ls : os.length = op.length
  at20 : ∀ i (h : i < op.length) (h1 : i < oq.length) (h2 : i < os.length), op[i].length = 20 ∧ oq[i].length = 20 ∧ os[i].length = 20
  xor : ∀ i (h : i < op.length) (h1 : i < oq.length) (h2 : i < os.length) j, j < 20 → os[i].getD j 0 = op[i].getD j 0 ^^^ oq[i].getD j 0 ∧ op[i].getD j 0 < 256 ∧ oq[i].getD j 0 < 256
  er : er = if 0 < n then 0 else 2
theorem lin_any (c d : List (List Nat)) (n k : Nat) (hc : ∀ x ∈ c.flatten, x < 256) (hd : ∀ x ∈ d.flatten, x < 256) (hn : n ≤ 8) (hk : k ≤ 6) :
    ∃ op oq os er, Lin (rowsP c n) (rowsP d n) (rowsX c d n) op oq os n k er := by
  have lX : ∀ c : List (List Nat), (rowsP c n).length = n := fun c => by simp [rowsP]
  have lZ : (rowsX c d n).length = n := by simp [rowsX]
  by_cases h0 : 0 < n
  · have pX : ∀ c : List (List Nat), ∀ cs ∈ rowsP c n, cs.length = 20 := fun c cs h => by
      obtain ⟨i, _, rfl⟩ := List.mem_map.1 h
      simp [pad20]
    have pZ : ∀ cs ∈ rowsX c d n, cs.length = 20 := fun cs h => by
      obtain ⟨i, _, rfl⟩ := List.mem_map.1 h
      simp [xor20]
    have bX : ∀ c : List (List Nat), (∀ x ∈ c.flatten, x < 256) → ∀ cs ∈ rowsP c n, ∀ y ∈ cs, y < 256 := fun c hc cs h y hy => by
      obtain ⟨i, _, rfl⟩ := List.mem_map.1 h
      obtain ⟨j, _, rfl⟩ := List.mem_map.1 hy
      exact flat_at hc i j
    have bZ : ∀ cs ∈ rowsX c d n, ∀ y ∈ cs, y < 256 := fun cs h y hy => by
      obtain ⟨i, _, rfl⟩ := List.mem_map.1 h
      obtain ⟨j, _, rfl⟩ := List.mem_map.1 hy
      exact Nat.xor_lt_two_pow (n := 8) (flat_at hc i j) (flat_at hd i j)
    have main : ∀ X : List (List Nat), X.length = n → (∀ cs ∈ X, cs.length = 20) → (∀ cs ∈ X, ∀ y ∈ cs, y < 256) → ∀ A ca w, RR w A X → Calls Try.prog 9 #[.slice A n ca, .int .i64 k] w (EncAns (parOut X n k) 0 w) := fun X hl h20 hb A ca w hr => by
      have h := (Encode_c A ca X k 20 w hr (by omega) (by omega) (by omega) (fun cs hcs => by rw [h20 cs hcs]; omega) hb (fun _ => h20)).mono fun e w' h => h.ans
      rw [same20 h20, encOut_par X k h20, hl] at h
      exact h
    have hlp : ∀ X, (parOut X n k).length = k := fun X => by simp [parOut]
    refine ⟨_, _, _, 0, main _ (lX c) (pX c) (bX c hc), main _ (lX d) (pX d) (bX d hd), main _ lZ pZ bZ, by rw [hlp, hlp], by rw [hlp, hlp], fun i _ _ _ => ⟨parOut_at _ _ _ _ _, parOut_at _ _ _ _ _, parOut_at _ _ _ _ _⟩, fun i h1 h2 h3 j hj => ⟨parOut_xor c d n k i j hc hd hj h1 h2 h3, ?_, ?_⟩, by simp [h0]⟩
    · have e : (parOut (rowsP c n) n k)[i].getD j 0 = gdot (colAt (rowsP c n) j) (weights (List.range n) (n + i)) := by simp [parOut, atV, List.getD_eq_getElem?_getD, hj]
      rw [e]
      exact gdot_lt' (col_lt (bX c hc) j)
    · have e : (parOut (rowsP d n) n k)[i].getD j 0 = gdot (colAt (rowsP d n) j) (weights (List.range n) (n + i)) := by simp [parOut, atV, List.getD_eq_getElem?_getD, hj]
      rw [e]
      exact gdot_lt' (col_lt (bX d hd) j)
  · obtain rfl : n = 0 := by omega
    have main : ∀ X : List (List Nat), X.length = 0 → ∀ A ca w, RR w A X → Calls Try.prog 9 #[.slice A (0 : Nat) ca, .int .i64 k] w (EncAns [] 2 w) := fun X hl A ca w hr => by
      have h := (Encode_bad A ca X k w (by omega) (.inl (by omega))).mono (R' := EncAns [] 2 w) (by
        rintro e w' ⟨rfl, rfl⟩
        exact ⟨none, 0, rfl, RR.nil _, Below.refl _ _⟩)
      rw [hl] at h
      exact h
    exact ⟨[], [], [], 2, main _ (lX c), main _ (lX d), main _ lZ, rfl, rfl, fun i h => by simp at h, fun i h => by simp at h, by simp⟩

theorem SRow.more {W : World} {okc : Nat → Prop} {base e : Nat} {v : Value} {css : List (List Nat)} (h : SRow W okc base e v css) (ok2 : Nat → Prop) (h2 : ∀ k, ok2 k → k < W.heap.size ∧ v.ownBlock ≠ some k) : SRow W (fun k => okc k ∨ ok2 k) base e v css := by
  obtain ⟨vals, a1, a2, a3, a4⟩ := h
  refine ⟨vals, a1, fun k hk => hk.elim (a2 k) (fun h => (h2 k h).1), fun k hk hk2 => hk2.elim (a3 k hk) (fun h => (h2 k h).2 hk), fun i hi => ?_⟩
  obtain ⟨A, c, e1, e2, e3, e4⟩ := a4 i hi
  exact ⟨A, c, e1, e2, e3, fun a ha => .inl (e4 a ha)⟩
/-- Three rows of slices, each for itself. -/
structure T3 (W : World) (ok : Nat → Prop) (N e : Nat) (vx vy vz : Value) (X Y Z : List (List Nat)) : Prop where
  x : SRow W ok N e vx X
  y : SRow W ok N e vy Y
  z : SRow W ok N e vz Z
  xy : NeRow vx vy
  yz : NeRow vy vz
  zx : NeRow vz vx
theorem T3.rot {W : World} {ok : Nat → Prop} {N e : Nat} {vx vy vz : Value} {X Y Z : List (List Nat)} (h : T3 W ok N e vx vy vz X Y Z) : T3 W ok N e vy vz vx Y Z X := ⟨h.y, h.z, h.x, h.yz, h.zx, h.xy⟩
theorem T3.below {W W' : World} {ok : Nat → Prop} {N e : Nat} {vx vy vz : Value} {X Y Z : List (List Nat)} (h : T3 W ok N e vx vy vz X Y Z) (hb : Below W.heap.size W W') : T3 W' ok N e vx vy vz X Y Z := ⟨h.x.below hb, h.y.below hb, h.z.below hb, h.xy, h.yz, h.zx⟩
theorem T3.nil (W : World) (N e : Nat) : T3 W (fun _ => False) N e (.slice none 0 0) (.slice none 0 0) (.slice none 0 0) [] [] [] := ⟨SRow.nil _ _ _, SRow.nil _ _ _, SRow.nil _ _ _, ne_nil _, ne_nil _, ne_nil _⟩
theorem T3.app {W w1 : World} {ok : Nat → Prop} {N e : Nat} {vx vy vz v1 : Value} {X Y Z : List (List Nat)} {A : Option Addr} {cs : List Nat} (h : T3 W ok N e vx vy vz X Y Z)
    (hA : ∀ a, A = some a → a.block < W.heap.size ∧ vy.ownBlock ≠ some a.block ∧ vz.ownBlock ≠ some a.block) (hS : SRow w1 (fun k => ok k ∨ ∃ a, A = some a ∧ k = a.block) N e v1 (X ++ [cs])) (hg : W.grownBy w1 vx.ownBlock)
    (hat : v1.ownBlock = vx.ownBlock ∨ ∃ b, v1.ownBlock = some b ∧ W.heap.size ≤ b) : T3 w1 (fun k => ok k ∨ ∃ a, A = some a ∧ k = a.block) N e v1 vy vz (X ++ [cs]) Y Z := by
  have hlt := h.x.okc_lt
  have hox : ∀ k, ok k → vx.ownBlock ≠ some k := fun k hk e => by obtain ⟨_, _, _, h3, _⟩ := h.x; exact h3 k e hk
  have mv : ∀ v (R : List (List Nat)), SRow W ok N e v R → NeRow v vx → (∀ a, A = some a → a.block < W.heap.size ∧ v.ownBlock ≠ some a.block) → SRow w1 (fun k => ok k ∨ ∃ a, A = some a ∧ k = a.block) N e v R := fun v R hR hne hA2 => by
    have h1 : SRow w1 ok N e v R := hR.move hg.size (fun k hk => hg.block k (by
      rcases hk with hk | hk
      · exact hlt k hk
      · exact (hR.typed k hk).2.1) (fun e => by
      rcases hk with hk | hk
      · exact hox k hk e.symm
      · exact hne k hk e.symm))
    exact h1.more _ (fun k hk => by
      obtain ⟨a, ha, rfl⟩ := hk
      exact ⟨by have := (hA2 a ha).1; have := hg.size; omega, (hA2 a ha).2⟩)
  have nw : ∀ v (R : List (List Nat)), SRow W ok N e v R → NeRow v vx → NeRow v v1 := fun v R hR hne k hk hk2 => by
    rcases hat with hat | ⟨b, hb, hle⟩
    · exact hne k hk (hat ▸ hk2)
    · have := (hR.typed k hk).2.1
      rw [hb] at hk2; injection hk2 with hk2; omega
  exact ⟨hS, mv vy Y h.y (ne_symm h.xy) (fun a ha => ⟨(hA a ha).1, (hA a ha).2.1⟩), mv vz Z h.z h.zx (fun a ha => ⟨(hA a ha).1, (hA a ha).2.2⟩), ne_symm (nw vy Y h.y (ne_symm h.xy)), h.yz, nw vz Z h.z h.zx⟩
end Go.Proofs.Ytdmfecaejdiihaa.F
