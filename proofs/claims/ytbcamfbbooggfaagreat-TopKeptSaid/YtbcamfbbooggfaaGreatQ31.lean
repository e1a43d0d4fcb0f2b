/- Part 31 of the proof: O1, O2, O3, O4, O5. -/
import Derived.Test.YtbcamfbbooggfaaGreatQ27
import Derived.Test.YtbcamfbbooggfaaGreatQ20
import Derived.Test.YtbcamfbbooggfaaGreatQ30

section
/- TopKept's closure: the packer is sealed, its place kept. -/
set_option linter.unusedVariables false
set_option linter.unusedSimpArgs false
namespace Go.Proofs.YtbcamfbbooggfaaGreat.F
open Go.RowKit Go.Proofs.YtbcamfbbooggfaaGreatW.PrintWords Go.Maps
attribute [local go_sem ↓] Go.wp_at_zero Go.wp_at_succ

theorem infoPl3 : (Tryz.prog.info? 53).map (fun i => (i.zero, i.size, i.bytes)) = some (some (.agg #[.int .i64 0, .int .i64 0, .int .i64 0]), 3, 24) := by kernel_rfl
/-- Places, in a row of the caller's own, that a cell holds. -/
def PlAt (W : World) (base gp : Nat) (l : List (Nat × Nat × Nat)) : Prop := ∃ v, W.heap[gp]? = some (.cells #[v] 48 (0, 0)) ∧ W.ownsRow base 53 3 v l.length (flatP l)
theorem PlAt.typed {W : World} {base gp : Nat} {l : List (Nat × Nat × Nat)} (h : PlAt W base gp l) : ∃ cs x, W.heap[gp]? = some (.cells cs 48 x) := by
  obtain ⟨v, h1, _⟩ := h
  exact ⟨_, _, h1⟩
theorem own_typed {W : World} {base : Nat} {e : TypeId} {k : Nat} {v : Value} {n : Nat} {F : List Value} (h : W.ownsRow base e k v n F) {g : Nat} (hg : v.ownBlock = some g) : base ≤ g ∧ ∃ cs x, W.heap[g]? = some (.cells cs e x) := by
  rcases h.2 with ⟨e1, _⟩ | ⟨g', cap, cur, e1, hb, hh, _⟩
  · rw [e1] at hg; cases hg
  · rw [e1] at hg
    injection hg with hg
    subst hg
    exact ⟨hb, _, _, hh⟩
/-- Places stay where blocks of other kinds turn. -/
theorem PlAt.off {W W' : World} {base gp : Nat} {l : List (Nat × Nat × Nat)} (h : PlAt W base gp l) {S : Nat → Prop} (hg : Gr S W W') (h1 : ¬ S gp) (h2 : ∀ k, S k → ∀ cs x, W.heap[k]? ≠ some (Obj.cells cs 53 x)) : PlAt W' base gp l := by
  obtain ⟨v, q1, q2⟩ := h
  refine ⟨v, (hg.block gp (Array.getElem?_eq_some_iff.1 q1).1 h1).trans q1, own_move q2 (fun k hk => ?_)⟩
  obtain ⟨_, cs, x, hh⟩ := own_typed q2 hk
  exact hg.block k (Array.getElem?_eq_some_iff.1 hh).1 (fun hS => h2 k hS cs x hh)
theorem PlAt.below {W W' : World} {base gp : Nat} {l : List (Nat × Nat × Nat)} (h : PlAt W base gp l) (hb : Below W.heap.size W W') : PlAt W' base gp l := by
  obtain ⟨v, q1, q2⟩ := h
  exact ⟨v, (hb.block gp (Array.getElem?_eq_some_iff.1 q1).1).trans q1, pw_own_below q2 hb⟩
/-- What sealing turns. -/
def SealS (db gs mb er rb gp bp : Nat) (W : World) (k : Nat) : Prop := DS db gs mb k ∨ k = er ∨ k = rb ∨ k = gp ∨ (bp ≤ k ∧ ∃ cs x, W.heap[k]? = some (Obj.cells cs 53 x))
theorem gr_own {W W' : World} {v : Value} (h : W.grownBy W' v.ownBlock) : Gr (fun k => v.ownBlock = some k) W W' := ⟨h.os, h.tape, h.output, h.size, fun k hk hn => h.block k hk (fun e => hn e.symm)⟩
theorem plat_grown {W W' : World} {base gp n : Nat} {v u : Value} {F : List Value} (ho : W.ownsRow base 53 3 v n F) (hq : W.heap[gp]? = some (.cells #[u] 48 (0, 0))) (hg : W.grownBy W' v.ownBlock) : W'.heap[gp]? = some (.cells #[u] 48 (0, 0)) :=
  ((gr_own hg).block gp (Array.getElem?_eq_some_iff.1 hq).1 (fun e => by
    obtain ⟨_, cs, x, hh⟩ := own_typed ho e
    exact cells_ne hq hh (by decide) rfl)).trans hq
theorem cell_of_one {W : World} {g : Nat} {u : Value} {t : TypeId} {x : Nat × Nat} (h : W.heap[g]? = some (.cells #[u] t x)) : W.cell? ⟨g, 0, none⟩ = some u := by rw [cell_of_row _ _ _ _ _ _ h]; rfl
set_option maxRecDepth 20000 in
set_option maxHeartbeats 4000000 in
theorem SealK_c {db gs mb er rb s pb id wide n t gk gsh gp bp : Nat} {sb : List (List Nat)} {dm : List (Nat × Sec × List Nat)} {life base at0 N : Nat} {l l' : List Rn} {m : List (Nat × Sec × List Nat)} {L : List (List Nat)} {pl : List (Nat × Nat × Nat)} (w : World)
    (hd : DK w db gs mb n sb dm 0 false life) (hs : SH w s db er rb m) (hne : rb ≠ mb) (he : EM w base er 0 t l) (hbase : base ≤ w.heap.size) (hp : PK sumN w pb id wide L) (hid : id < 4096) (hc : Chunks L) (h0 : 0 < L.length) (hk : lk m id = none)
    (hN : N = (128 + L.flatten.length + 34 * L.length + 127) / 128) (ht : takeF l (N : Int) = (((at0 : Nat) : Int), 0, l')) (hll : l.length ≤ 10000) (hlr : ∀ r ∈ l, r.1 + r.2 ≤ 4096) (hat : at0 + N ≤ n)
    (k19 : w.heap[gsh]? = some (.cells #[.pointer (some ⟨s, 0, none⟩)] 43 (0, 0))) (k23 : w.heap[gk]? = some (.cells #[.pointer (some ⟨pb, 0, none⟩)] 49 (0, 0))) (hpl : PlAt w bp gp pl) (hbp : bp ≤ w.heap.size) (hpll : pl.length ≤ 1000) :
    Calls Tryz.prog 10 #[.pointer (some ⟨gsh, 0, none⟩), .pointer (some ⟨gk, 0, none⟩), .pointer (some ⟨gp, 0, none⟩)] w fun e w' => e = .returned (.bool true) ∧
      (∃ dm', DK w' db gs mb n sb dm' 0 false life ∧ ∀ i, readN sb dm' i = if at0 ≤ i ∧ i < at0 + N then secN (bytesN id L) (i - at0) else readN sb dm i) ∧
      SH w' s db er rb ((id, (at0, N), []) :: without m id) ∧ EM w' base er 0 t l' ∧ PlAt w' bp gp (pl ++ [(id, at0, N)]) ∧ Gr (SealS db gs mb er rb gp bp w) w w' := by
  have c19 : w.cell? ⟨gsh, 0, none⟩ = some (.pointer (some ⟨s, 0, none⟩)) := by rw [cell_of_row _ _ _ _ _ _ k19]; rfl
  have c23 : w.cell? ⟨gk, 0, none⟩ = some (.pointer (some ⟨pb, 0, none⟩)) := by rw [cell_of_row _ _ _ _ _ _ k23]; rfl
  have HSL := Lib.hid (Seal_c w hd hs hne he hbase hp hid hc h0 hk hN ht hll hlr hat)
  obtain ⟨pcs, px, pty⟩ := hpl.typed
  have ap := fun k (h : DS db gs mb k ∨ k = er ∨ k = rb) cs x (e : w.heap[k]? = some (Obj.cells cs 53 x)) => (by
    rcases h with h | h | h
    · exact hd.apart e (by decide) (by decide) h
    · subst h
      obtain ⟨ecs, ex, ety⟩ := he.typed
      exact cells_ne e ety (by decide) rfl
    · subst h
      obtain ⟨_, ⟨es, c, q⟩⟩ := hs.typed
      exact map_ne e q rfl : False)
  have apg : ¬ (DS db gs mb gp ∨ gp = er ∨ gp = rb) := by
    rintro (h | h | h)
    · exact hd.apart pty (by decide) (by decide) h
    · obtain ⟨ecs, ex, ety⟩ := he.typed
      exact cells_ne pty ety (by decide) h
    · obtain ⟨_, ⟨es, c, q⟩⟩ := hs.typed
      exact map_ne pty q h
  have HAP := Lib.hid ap
  have HAPG := Lib.hid apg
  have HPL := Lib.hid hpl
  clear hd hs he hp hk hN ht hll hlr hc k19 k23 hpl ap apg pty
  go_enter Tryz.func10, Tryz.ntmps10
  go_wp2_with fail
  refine HSL.out.mono ?_
  rintro e w1 ⟨rfl, ⟨dm1, hd1, hrd1⟩, hs1, he1, hg1⟩
  have hp1 := HPL.out.off hg1 HAPG.out (fun k hk cs x e => HAP.out k hk cs x e)
  obtain ⟨W2, hW2⟩ : ∃ W2, w1.alloc (.cells #[.int .i64 (id : Nat), .int .i64 (at0 : Nat), .int .i64 (N : Nat)] 53) = W2 := ⟨_, rfl⟩
  have hb2 : Below w1.heap.size w1 W2 := by rw [← hW2]; exact (Below.refl _ _).alloc (Nat.le_refl _) _
  have g4 : W2.heap[w1.heap.size]? = some (.cells #[.int .i64 (id : Nat), .int .i64 (at0 : Nat), .int .i64 (N : Nat)] 53 (0, 0)) := by rw [← hW2]; exact heap_alloc_new _ _
  obtain ⟨W3, hW3⟩ : ∃ W3, W2.alloc (.cells #[.int .i64 (id : Nat), .int .i64 (at0 : Nat), .int .i64 (N : Nat)] 53) = W3 := ⟨_, rfl⟩
  have hb3 : Below W2.heap.size W2 W3 := by rw [← hW3]; exact (Below.refl _ _).alloc (Nat.le_refl _) _
  have hr3 : RV 53 W3 (some ⟨W2.heap.size, 0, none⟩) 1 [.int .i64 (id : Nat), .int .i64 (at0 : Nat), .int .i64 (N : Nat)] := by rw [← hW3]; exact RV_new _ W2 [.int .i64 (id : Nat), .int .i64 (at0 : Nat), .int .i64 (N : Nat)] 1 (by decide)
  have hb13 := hb2.trans (hb3.mono hb2.size)
  obtain ⟨v3, q3, o3⟩ := hp1.below hb13
  obtain ⟨v2, q2, o2⟩ := hp1.below hb2
  obtain rfl : v2 = v3 := by
    obtain ⟨v1, q1, _⟩ := hp1
    have e3 := (hb13.block gp (Array.getElem?_eq_some_iff.1 q1).1).trans q1
    have e2 := (hb2.block gp (Array.getElem?_eq_some_iff.1 q1).1).trans q1
    rw [e3] at q3; rw [e2] at q2
    injection q3 with q3; injection q3 with q3 _ _
    injection q2 with q2; injection q2 with q2 _ _
    rw [← Array.toList_inj] at q2 q3
    simp at q2 q3
    rw [← q2, ← q3]
  have kp : W2.cell? ⟨gp, 0, none⟩ = some v2 := by rw [cell_of_row _ _ _ _ _ _ q2]; rfl
  have p0 : W2.cell? ⟨w1.heap.size, 0, none⟩ = some (.int .i64 (id : Nat)) := by rw [cell_of_row _ _ _ _ _ _ g4]; rfl
  have p1 : W2.cell? ⟨w1.heap.size, 1, none⟩ = some (.int .i64 (at0 : Nat)) := by rw [cell_of_row _ _ _ _ _ _ g4]; rfl
  have p2 : W2.cell? ⟨w1.heap.size, 2, none⟩ = some (.int .i64 (N : Nat)) := by rw [cell_of_row _ _ _ _ _ _ g4]; rfl
  have HW2 := Lib.hid hW2
  have HW3 := Lib.hid hW3
  have HO3 := Lib.hid o3
  have HR3 := Lib.hid hr3
  have HQ3 := Lib.hid q3
  have HD3 := Lib.hid (hd1.below hb13)
  have HS3 := Lib.hid (hs1.below hb13)
  have HE3 := Lib.hid (he1.below hb13)
  have HRD := Lib.hid hrd1
  have HG3 := Lib.hid ((hg1.mono (S' := SealS db gs mb er rb gp bp w) (fun x _ hx => by
    rcases hx with h | h | h
    · exact .inl h
    · exact .inr (.inl h)
    · exact .inr (.inr (.inl h)))).trans (Gr.of_below (SealS db gs mb er rb gp bp w) hb13) (fun x _ hx => hx))
  have HPW := Lib.hid (fun k (hk : k < w.heap.size) cs x (e : W3.heap[k]? = some (Obj.cells cs 53 x)) => (by
    by_cases hS : DS db gs mb k ∨ k = er ∨ k = rb
    · exact .inr (by
        rcases hS with h | h | h
        · exact .inl h
        · exact .inr (.inl h)
        · exact .inr (.inr (.inl h)))
    · exact .inl (((hb13.block k (Nat.lt_of_lt_of_le hk hg1.size)).trans (hg1.block k hk hS)).symm.trans e) : w.heap[k]? = some (Obj.cells cs 53 x) ∨ SealS db gs mb er rb gp bp w k))
  have hz3 : w.heap.size ≤ W3.heap.size := HG3.out.size
  obtain ⟨A2, c2, ev, hc2, _, _⟩ := RV.ofOwn o3
  subst ev
  have HSZ := Lib.hid (show bp ≤ W3.heap.size by omega)
  clear hW2 hW3 hb2 hb3 hr3 hb13 o3 o2 q2 q3 hd1 hs1 he1 hrd1 hg1 hp1 g4 HSL HPL HAP HAPG
  go_wp2_with (first | (rw [HW2.out]) | (rw [HW3.out]) | (at_builtin; refine wpList_append_RV bp rfl (.tmp 12) (.tmp 14) 48 53 (.agg #[.int .i64 0, .int .i64 0, .int .i64 0]) 3 24 rfl Tryz.underlying48 infoPl3 rfl (by decide) (.slice A2 pl.length c2) pl.length (flatP pl) (some ⟨W2.heap.size, 0, none⟩) 1 1 [.int .i64 (id : Nat), .int .i64 (at0 : Nat), .int .i64 (N : Nat)] rfl rfl HO3.out HR3.out (by simp) (by simp [Value.oneCell']) HSZ.out (by omega) (by omega) ?_; intro v5 w5 ho5 hg5; obtain ⟨A5, c5, ev5, hc5, _, _⟩ := RV.ofOwn ho5; subst ev5; have hq5 := plat_grown HO3.out HQ3.out hg5; have kp5 := cell_of_one hq5; have kf5 : w5.frozen? ⟨gp, 0, none⟩ = false := frozen_of_row _ _ _ _ _ hq5; have HO5 := Lib.hid ho5; have HG5 := Lib.hid hg5; have HQ5 := Lib.hid hq5; clear ho5 hg5 hq5))
  have hq5 := HQ5.out
  have ho5 := HO5.out
  have hgo := gr_own HG5.out
  have own3 := fun k (hk : (Value.slice A2 pl.length c2).ownBlock = some k) => own_typed HO3.out hk
  have hd5 := HD3.out.off hgo (fun k hk => by
    obtain ⟨_, cs, x, hh⟩ := own3 k hk
    exact HD3.out.apart hh (by decide) (by decide)) (fun k hk cs' x' e => by
    obtain ⟨_, cs, x, hh⟩ := own3 k hk
    exact cells_ne hh e (by decide) rfl)
  have hs5 := HS3.out.off hgo (fun e => by
    obtain ⟨_, cs, x, hh⟩ := own3 _ e
    obtain ⟨⟨_, _, q⟩, _⟩ := HS3.out.typed
    exact cells_ne q hh (by decide) rfl) (fun e => by
    obtain ⟨_, cs, x, hh⟩ := own3 _ e
    obtain ⟨_, ⟨_, _, q⟩⟩ := HS3.out.typed
    exact map_ne hh q rfl)
  have he5 := HE3.out.off hgo (fun e => by
    obtain ⟨_, cs, x, hh⟩ := own3 _ e
    obtain ⟨_, _, q⟩ := HE3.out.typed
    exact cells_ne q hh (by decide) rfl) (fun k hk cs' e => by
    obtain ⟨_, cs, x, hh⟩ := own3 k hk
    exact cells_ne hh e (by decide) rfl)
  have hgG : Gr (SealS db gs mb er rb gp bp w) w w5 := HG3.out.trans hgo (fun k hk hS => by
    obtain ⟨hbk, cs, x, hh⟩ := own3 k hS
    rcases HPW.out k hk cs x hh with h | h
    · exact .inr (.inr (.inr (.inr ⟨hbk, cs, x, h⟩)))
    · exact h)
  have hgP : Gr (fun k => k = gp) w5 (w5.setCell ⟨gp, 0, none⟩ (.slice A5 (pl.length + 1) c5)) := Gr.setCell (S := fun k => k = gp) _ _ _ rfl
  have hset := heap_setCell_same w5 gp 0 _ _ (.slice A5 (pl.length + 1) c5) hq5
  have HDE := Lib.hid (hd5.off hgP (fun k hk => by subst hk; exact hd5.apart hq5 (by decide) (by decide)) (fun k hk cs x e => by subst hk; exact cells_ne hq5 e (by decide) rfl))
  have HSE := Lib.hid (hs5.off hgP (fun e => by
    obtain ⟨⟨_, _, q⟩, _⟩ := hs5.typed
    exact cells_ne q hq5 (by decide) e) (fun e => by
    obtain ⟨_, ⟨_, _, q⟩⟩ := hs5.typed
    exact map_ne hq5 q e.symm))
  have HEE := Lib.hid (he5.off hgP (fun e => by
    obtain ⟨_, _, q⟩ := he5.typed
    exact cells_ne q hq5 (by decide) e) (fun k hk cs e => by subst hk; exact cells_ne hq5 e (by decide) rfl))
  have HGE := Lib.hid (hgG.trans hgP (fun x _ hx => .inr (.inr (.inr (.inl hx)))))
  have hpE : PlAt (w5.setCell ⟨gp, 0, none⟩ (.slice A5 (pl.length + 1) c5)) bp gp (pl ++ [(id, at0, N)]) := by
    refine ⟨_, hset, ?_⟩
    rw [List.length_append]
    have hfl : flatP (pl ++ [(id, at0, N)]) = flatP pl ++ [.int .i64 (id : Nat), .int .i64 (at0 : Nat), .int .i64 (N : Nat)] := by simp [flatP, pcCells]
    rw [hfl]
    refine own_move ho5 (fun k hk => hgP.block k ?_ ?_)
    · obtain ⟨_, cs, x, hh⟩ := own_typed ho5 hk
      exact (Array.getElem?_eq_some_iff.1 hh).1
    · intro e
      obtain ⟨_, cs, x, hh⟩ := own_typed ho5 hk
      subst e
      exact cells_ne hh hq5 (by decide) rfl
  have HPE := Lib.hid hpE
  go_ret
  exact ⟨rfl, ⟨dm1, HDE.out, HRD.out⟩, HSE.out, HEE.out, HPE.out, HGE.out⟩
end Go.Proofs.YtbcamfbbooggfaaGreat.F
end

section
/- How chunks lie in containers: plain law. -/
set_option linter.unusedVariables false
set_option linter.unusedSimpArgs false
namespace Go.Proofs.YtbcamfbbooggfaaGreat.F

abbrev Grp := List (List Nat)
def gsz (g : Grp) : Nat := g.flatten.length + 34 * g.length
def secsOf (g : Grp) : Nat := (128 + g.flatten.length + 34 * g.length + 127) / 128
def offOf : List Grp → Nat
  | [] => 0
  | g :: r => secsOf g + offOf r
theorem offOf_append : ∀ (a b : List Grp), offOf (a ++ b) = offOf a + offOf b
  | [], b => by simp [offOf]
  | g :: r, b => by simp [offOf, offOf_append r b]; omega
/-- The places of containers. -/
def plFrom : Nat → Nat → List Grp → List (Nat × Nat × Nat)
  | _, _, [] => []
  | j, o, g :: r => (j, o, secsOf g) :: plFrom (j + 1) (o + secsOf g) r
theorem plFrom_len : ∀ (j o : Nat) (G : List Grp), (plFrom j o G).length = G.length
  | _, _, [] => rfl
  | j, o, g :: r => by simp [plFrom, plFrom_len (j + 1) _ r]
theorem plFrom_snoc : ∀ (j o : Nat) (G : List Grp) (g : Grp), plFrom j o (G ++ [g]) = plFrom j o G ++ [(j + G.length, o + offOf G, secsOf g)]
  | j, o, [], g => by simp [plFrom, offOf]
  | j, o, h :: r, g => by
    have e : j + 1 + r.length = j + (r.length + 1) := by omega
    have e2 : o + secsOf h + offOf r = o + (secsOf h + offOf r) := by omega
    simp only [List.cons_append, plFrom, plFrom_snoc (j + 1) _ r g, offOf, List.length_cons, e, e2]
theorem plFrom_get : ∀ (j o : Nat) (G : List Grp) (i : Nat) (h : i < G.length) (h2 : i < (plFrom j o G).length), (plFrom j o G)[i] = (j + i, o + offOf (G.take i), secsOf G[i])
  | j, o, g :: r, 0, _, _ => by simp [plFrom, offOf]
  | j, o, g :: r, i + 1, h, h2 => by
    have := plFrom_get (j + 1) (o + secsOf g) r i (by simpa using h) (by simpa [plFrom] using h2)
    simp only [plFrom, List.getElem_cons_succ, this, List.take_succ_cons, offOf]
    exact Prod.ext (by show j + 1 + i = j + (i + 1); omega) (Prod.ext (by show o + secsOf g + offOf (r.take i) = o + (secsOf g + offOf (r.take i)); omega) rfl)
/-- The references to a container's chunks. -/
def slRefs (b : Nat) : Nat → Grp → List Rf
  | _, [] => []
  | s, p :: t => (sumN p, p.length, b, s) :: slRefs b (s + 1) t
theorem slRefs_snoc (b : Nat) : ∀ (s : Nat) (g : Grp) (p : List Nat), slRefs b s (g ++ [p]) = slRefs b s g ++ [(sumN p, p.length, b, s + g.length)]
  | s, [], p => by simp [slRefs]
  | s, q :: t, p => by
    have e : s + 1 + t.length = s + (t.length + 1) := by omega
    simp only [List.cons_append, slRefs, slRefs_snoc b (s + 1) t p, List.length_cons, e]
def refsOf : Nat → List Grp → List Rf
  | _, [] => []
  | b, g :: r => slRefs b 0 g ++ refsOf (b + 1) r
theorem refsOf_snoc : ∀ (b : Nat) (G : List Grp) (g : Grp), refsOf b (G ++ [g]) = refsOf b G ++ slRefs (b + G.length) 0 g
  | b, [], g => by simp [refsOf]
  | b, h :: r, g => by
    have e : b + 1 + r.length = b + (r.length + 1) := by omega
    simp only [List.cons_append, refsOf, refsOf_snoc (b + 1) r g, List.length_cons, List.append_assoc, e]
theorem slRefs_len (b : Nat) : ∀ (s : Nat) (g : Grp), (slRefs b s g).length = g.length
  | _, [] => rfl
  | s, p :: t => by simp [slRefs, slRefs_len b (s + 1) t]
theorem refsOf_len : ∀ (b : Nat) (G : List Grp), (refsOf b G).length = G.flatten.length
  | _, [] => rfl
  | b, g :: r => by simp [refsOf, refsOf_len (b + 1) r, slRefs_len]
theorem slRefs_get (b : Nat) : ∀ (s : Nat) (g : Grp) (i : Nat) (h : i < g.length) (h2 : i < (slRefs b s g).length), (slRefs b s g)[i] = (sumN g[i], g[i].length, b, s + i)
  | s, p :: t, 0, _, _ => by simp [slRefs]
  | s, p :: t, i + 1, h, h2 => by
    have := slRefs_get b (s + 1) t i (by simpa using h) (by simpa [slRefs] using h2)
    have e : s + 1 + i = s + (i + 1) := by omega
    simp only [slRefs, List.getElem_cons_succ, this, e]
/-- Each reference tells where its chunk lies. -/
theorem refsOf_get : ∀ (b : Nat) (G : List Grp) (i : Nat) (h : i < G.flatten.length) (h2 : i < (refsOf b G).length), ∃ j s, ∃ (hj : j < G.length) (hs : s < G[j].length), (refsOf b G)[i] = (sumN G.flatten[i], G.flatten[i].length, b + j, s) ∧ G[j][s] = G.flatten[i]
  | b, [], i, h, _ => by simp at h
  | b, g :: r, i, h, h2 => by
    by_cases hi : i < g.length
    · refine ⟨0, i, by simp, by simpa using hi, ?_, ?_⟩
      · have e : (refsOf b (g :: r))[i] = (slRefs b 0 g)[i]'(by rw [slRefs_len]; exact hi) := by
          simp only [refsOf]
          rw [List.getElem_append_left]
        rw [e, slRefs_get b 0 g i hi]
        simp [List.getElem_append_left, hi]
      · simp [List.getElem_append_left, hi]
    · have hlen : (slRefs b 0 g).length = g.length := slRefs_len b 0 g
      have hfl : (g :: r).flatten.length = g.length + r.flatten.length := by simp
      have hrl : (refsOf b (g :: r)).length = g.length + (refsOf (b + 1) r).length := by simp [refsOf, hlen]
      obtain ⟨j, s, hj, hs, e1, e2⟩ := refsOf_get (b + 1) r (i - g.length) (by omega) (by omega)
      have ef : (g :: r).flatten[i] = r.flatten[i - g.length]'(by omega) := by
        simp only [List.flatten_cons]
        rw [List.getElem_append_right (by omega)]
      have er : (refsOf b (g :: r))[i] = (refsOf (b + 1) r)[i - g.length]'(by omega) := by
        simp only [refsOf]
        rw [List.getElem_append_right (by omega)]
        simp only [hlen]
      refine ⟨j + 1, s, by simpa using hj, by simpa using hs, ?_, ?_⟩
      · have e : b + 1 + j = b + (j + 1) := by omega
        rw [er, e1, ef, e]
      · rw [ef, ← e2]
        simp
/-- Sealed containers are few. -/
theorem few_step {a b c d e f k : Nat} (h2 : 1374 < a + 34 * b) (h3 : k ≤ 16) (h5 : e * 1375 ≤ c + 34 * d) (h6 : f ≤ 16 * e) : (e + 1) * 1375 ≤ a + c + 34 * (b + d) ∧ k + f ≤ 16 * (e + 1) := by omega
theorem few : ∀ (G : List Grp), (∀ g ∈ G, 1374 < gsz g ∧ gsz g ≤ 1920) → G.length * 1375 ≤ G.flatten.flatten.length + 34 * G.flatten.length ∧ offOf G ≤ 16 * G.length
  | [], _ => by simp [offOf]
  | g :: r, h => by
    have h1 := few r (fun x hx => h x (List.mem_cons_of_mem _ hx))
    have h2 := h g List.mem_cons_self
    unfold gsz at h2
    have h3 : secsOf g ≤ 16 := by unfold secsOf; omega
    have e1 : (g :: r).flatten.flatten.length = g.flatten.length + r.flatten.flatten.length := by simp
    have e2 : (g :: r).flatten.length = g.length + r.flatten.length := by simp
    have e4 : offOf (g :: r) = secsOf g + offOf r := rfl
    obtain ⟨h5, h6⟩ := h1
    rw [e1, e2, e4, List.length_cons]
    exact few_step h2.1 h3 h5 h6
theorem secsOf_ge (g : Grp) (h : 0 < g.length) (h2 : gsz g ≤ 1920) (h3 : 0 < g.flatten.length) : 2 ≤ secsOf g ∧ secsOf g ≤ 16 := by
  unfold gsz at h2
  unfold secsOf
  omega
end Go.Proofs.YtbcamfbbooggfaaGreat.F
end

section
/- The pieces of a cut, one behind the other: plain law. -/
set_option linter.unusedVariables false
set_option linter.unusedSimpArgs false
namespace Go.Proofs.YtbcamfbbooggfaaGreat.F

def pieceB (cs : List (List Nat)) (x : Nat × Nat × Nat) : List Nat := ((cs.getD x.1 []).drop x.2.1).take x.2.2
theorem cut_first (c R : List Nat) (wi m : Nat) (h : wi ≤ c.length) : ((c ++ R).drop wi).take m = (c.drop wi).take (min m (c.length - wi)) ++ R.take (m - min m (c.length - wi)) := by
  rw [List.drop_append_of_le_length h, List.take_append]
  have e : (c.drop wi).length = c.length - wi := List.length_drop ..
  rw [e]
  by_cases hm : m ≤ c.length - wi
  · rw [Nat.min_eq_left hm]
    congr 2
    omega
  · rw [Nat.min_eq_right (by omega)]
    have e1 : (c.drop wi).take m = c.drop wi := List.take_of_length_le (by omega)
    have e2 : (c.drop wi).take (c.length - wi) = c.drop wi := List.take_of_length_le (by omega)
    rw [e1, e2]
theorem pcs_cat (l : List Rf) (cs : List (List Nat)) (hlen : cs.length = l.length) (hl : ∀ t (h : t < l.length), l[t].2.1 = (cs.getD t []).length) :
    ∀ k i wi m, l.length - i = k → (i < l.length → wi ≤ (cs.getD i []).length) → (¬ i < l.length → wi = 0) → m ≤ ((cs.drop i).flatten.drop wi).length →
      ((pcsFrom l i wi m).map (pieceB cs)).flatten = ((cs.drop i).flatten.drop wi).take m ∧ ∀ x ∈ pcsFrom l i wi m, ∃ h : x.1 < l.length, x.2.1 + x.2.2 ≤ (cs.getD x.1 []).length := by
  intro k
  induction k with
  | zero =>
    intro i wi m hk hw hw2 hm
    have hi : ¬ i < l.length := by omega
    rw [pcsFrom_no l i wi m (fun h => hi h.1)]
    have e : cs.drop i = [] := List.drop_of_length_le (by omega)
    rw [e] at hm ⊢
    exact ⟨by simp, fun x hx => by cases hx⟩
  | succ k ih =>
    intro i wi m hk hw hw2 hm
    have hi : i < l.length := by omega
    by_cases h0 : m = 0
    · subst h0
      rw [pcsFrom_no l i wi 0 (by omega)]
      exact ⟨by simp, fun x hx => by cases hx⟩
    · have hic : i < cs.length := by omega
      have hc : cs.getD i [] = cs[i] := by rw [List.getD_eq_getElem?_getD, List.getElem?_eq_getElem hic]; rfl
      have hw' := hw hi
      rw [hc] at hw'
      have hd : cs.drop i = cs[i] :: cs.drop (i + 1) := List.drop_eq_getElem_cons hic
      rw [pcsFrom_yes l i wi m hi (by omega), hl i hi, hc]
      rw [hd, List.flatten_cons] at hm ⊢
      rw [cut_first _ _ _ _ hw']
      have hm2 : m - min m (cs[i].length - wi) ≤ ((cs.drop (i + 1)).flatten.drop 0).length := by
        rw [List.length_drop, List.length_append] at hm
        rw [List.drop_zero]
        omega
      obtain ⟨h1, h2⟩ := ih (i + 1) 0 (m - min m (cs[i].length - wi)) (by omega) (fun _ => Nat.zero_le _) (fun _ => rfl) hm2
      refine ⟨?_, fun x hx => ?_⟩
      · rw [List.map_cons, List.flatten_cons, h1, List.drop_zero]
        congr 1
        unfold pieceB
        rw [hc]
      · rcases List.mem_cons.1 hx with rfl | hx
        · refine ⟨hi, ?_⟩
          show wi + min m (cs[i].length - wi) ≤ (cs.getD i []).length
          rw [hc]
          omega
        · exact h2 x hx
theorem upto_cat (l : List Rf) (cs : List (List Nat)) (hlen : cs.length = l.length) (hl : ∀ t (h : t < l.length), l[t].2.1 = (cs.getD t []).length) : ∀ i, i ≤ l.length → upto l i = (cs.take i).flatten.length
  | 0, _ => by simp [upto]
  | i + 1, h => by
    have hic : i < cs.length := by omega
    have hc : cs.getD i [] = cs[i] := by rw [List.getD_eq_getElem?_getD, List.getElem?_eq_getElem hic]; rfl
    rw [upto_succ l i (by omega), upto_cat l cs hlen hl i (by omega), List.take_succ_eq_append_getElem hic, List.flatten_append, List.length_append, hl i (by omega), hc]
    simp
theorem pieces_cat (l : List Rf) (cs : List (List Nat)) (hlen : cs.length = l.length) (hl : ∀ t (h : t < l.length), l[t].2.1 = (cs.getD t []).length) (a m : Nat) (ham : a + m ≤ cs.flatten.length) (xs : List (Nat × Nat × Nat)) (h : PcsOf l a m xs) :
    (xs.map (pieceB cs)).flatten = (cs.flatten.drop a).take m ∧ ∀ x ∈ xs, ∃ h : x.1 < l.length, x.2.1 + x.2.2 ≤ (cs.getD x.1 []).length := by
  rcases h with ⟨h1, rfl⟩ | ⟨i, hi, h1, h2, rfl⟩
  · rw [upto_cat l cs hlen hl _ (Nat.le_refl _), List.take_of_length_le (by omega)] at h1
    rw [List.drop_of_length_le h1]
    exact ⟨by simp, fun x hx => by cases hx⟩
  · have hic : i < cs.length := by omega
    have hc : cs.getD i [] = cs[i] := by rw [List.getD_eq_getElem?_getD, List.getElem?_eq_getElem hic]; rfl
    rw [upto_succ l i hi, hl i hi] at h2
    have hu := upto_cat l cs hlen hl i (by omega)
    have hs : cs.flatten = (cs.take i).flatten ++ (cs.drop i).flatten := by rw [← List.flatten_append, List.take_append_drop]
    have hdr : cs.flatten.drop a = (cs.drop i).flatten.drop (a - upto l i) := by
      rw [hs, hu, List.drop_append, List.drop_of_length_le (by omega), List.nil_append]
    have hlenf : cs.flatten.length = upto l i + (cs.drop i).flatten.length := by rw [hu, ← List.length_append, ← hs]
    obtain ⟨q1, q2⟩ := pcs_cat l cs hlen hl _ i (a - upto l i) m rfl (fun _ => by omega) (fun h => absurd hi h) (by rw [List.length_drop]; omega)
    exact ⟨by rw [q1, hdr], q2⟩
end Go.Proofs.YtbcamfbbooggfaaGreat.F
end

section
/- Room is taken from the front: plain law. -/
set_option linter.unusedVariables false
set_option linter.unusedSimpArgs false
namespace Go.Proofs.YtbcamfbbooggfaaGreat.F

theorem cutL_one (off N : Nat) (h : off + N < 4096) : cutL [(off, 4096 - off)] 0 off N = [(off + N, 4096 - (off + N))] := by
  unfold cutL pieces
  have h1 : ¬ off < off := by omega
  have h2 : off + N < off + (4096 - off) := by omega
  have h3 : off + (4096 - off) - (off + N) = 4096 - (off + N) := by omega
  simp [h2, h3]
theorem takeF_one (off N : Nat) (h1 : 1 ≤ N) (h : off + N < 4096) : takeF [(off, 4096 - off)] (N : Int) = (((off : Nat) : Int), 0, [(off + N, 4096 - (off + N))]) := by
  unfold takeF
  have h2 : ¬ (N : Int) < 1 := by omega
  have h3 : decide ((N : Int) ≤ ((4096 - off : Nat) : Int)) = true := decide_eq_true (by omega)
  have h4 : List.findIdx? (fun r : Rn => decide ((N : Int) ≤ (r.2 : Int))) [(off, 4096 - off)] = some 0 := by simp only [List.findIdx?_cons, h3, if_true]
  have h5 : ((N : Int)).toNat = N := by omega
  rw [if_neg h2, h4]
  show (((off : Nat) : Int), (0 : Int), cutL [(off, 4096 - off)] 0 off ((N : Int)).toNat) = _
  rw [h5, cutL_one off N h]
theorem claimF_one (off N : Nat) (h1 : 1 ≤ N) (h : off + N < 4096) : claimF 0 4096 [(off, 4096 - off)] (off : Int) (N : Int) = (0, [(off + N, 4096 - (off + N))]) := by
  unfold claimF
  have hw : withinB 0 4096 (off : Int) (N : Int) = true := by unfold withinB; exact decide_eq_true ⟨by omega, by omega, by omega, by omega⟩
  have h3 : (decide (((off : Nat) : Int) ≤ (off : Int)) && decide ((off : Int) + (N : Int) ≤ ((off : Nat) : Int) + ((4096 - off : Nat) : Int))) = true := by
    rw [Bool.and_eq_true]; exact ⟨decide_eq_true (by omega), decide_eq_true (by omega)⟩
  have h4 : List.findIdx? (fun r : Rn => decide ((r.1 : Int) ≤ (off : Int)) && decide ((off : Int) + (N : Int) ≤ (r.1 : Int) + r.2)) [(off, 4096 - off)] = some 0 := by simp only [List.findIdx?_cons, h3, if_true]
  have h5 : ((N : Int)).toNat = N := by omega
  have h6 : ((off : Int)).toNat = off := by omega
  rw [if_neg (by rw [hw]; decide), h4]
  show ((0 : Int), cutL [(off, 4096 - off)] 0 ((off : Int)).toNat ((N : Int)).toNat) = _
  rw [h5, h6, cutL_one off N h]
/-- What fits is added; what does not fit fills a container. -/
theorem add_ok {n d p : Nat} (h1 : 1 ≤ p) (h2 : p ≤ 512) (hn : n < 64) (h : p ≤ roomN 16 n d) : addErr 16 n d p = 0 := by
  unfold addErr
  rw [if_neg (by omega), if_neg (by omega), if_neg (by omega)]
theorem room_full {n d p : Nat} (h2 : p ≤ 512) (h : roomN 16 n d < p) : 1374 < d + 34 * n := by
  unfold roomN at h
  split at h <;> omega
theorem room_new {p : Nat} (h2 : p ≤ 512) : p ≤ roomN 16 0 0 := by
  unfold roomN
  simp
  omega
theorem room_sz {n d p : Nat} (hn : n < 64) (h : p ≤ roomN 16 n d) (h1 : 1 ≤ p) : d + p + 34 * (n + 1) ≤ 1920 := by
  unfold roomN at h
  rw [if_neg (by omega)] at h
  omega
end Go.Proofs.YtbcamfbbooggfaaGreat.F
end

section
/- The state of the packing. -/
set_option linter.unusedVariables false
set_option linter.unusedSimpArgs false
namespace Go.Proofs.YtbcamfbbooggfaaGreat.F
open Go.RowKit Go.Proofs.YtbcamfbbooggfaaGreatW.PrintWords Go.Maps

/-- A container that was sealed. -/
def GOk (g : Grp) : Prop := Chunks g ∧ 0 < g.length ∧ 1374 < gsz g ∧ gsz g ≤ 1920
def kvV (kv : Option Nat) : Value := .pointer (kv.map fun b => ⟨b, 0, none⟩)
/-- What lies on the disk and in the shelf behind the sealed ones. -/
structure OnDisk (sb : List (List Nat)) (dm m : List (Nat × Sec × List Nat)) (G : List Grp) : Prop where
  has : ∀ j (h : j < G.length), lk m j = some ((offOf (G.take j), secsOf G[j]), [])
  no : ∀ j, G.length ≤ j → lk m j = none
  bytes : ∀ j (h : j < G.length) i, i < secsOf G[j] → readN sb dm (offOf (G.take j) + i) = secN (bytesN j G[j]) i
theorem offOf_take_le (G : List Grp) (j : Nat) (h : j < G.length) : offOf (G.take j) + secsOf G[j] ≤ offOf G := by
  have e : G = G.take j ++ (G[j] :: G.drop (j + 1)) := by rw [← List.drop_eq_getElem_cons h, List.take_append_drop]
  have h2 : offOf G = offOf (G.take j) + (secsOf G[j] + offOf (G.drop (j + 1))) := by
    have := congrArg offOf e
    rw [offOf_append] at this
    exact this
  omega
theorem OnDisk.nil (sb : List (List Nat)) (dm : List (Nat × Sec × List Nat)) : OnDisk sb dm [] [] := ⟨fun j h => by simp at h, fun j _ => rfl, fun j h => by simp at h⟩
/-- One more is sealed. -/
theorem OnDisk.snoc {sb : List (List Nat)} {dm dm' m : List (Nat × Sec × List Nat)} {G : List Grp} (h : OnDisk sb dm m G) (g : Grp)
    (hrd : ∀ i, readN sb dm' i = if offOf G ≤ i ∧ i < offOf G + secsOf g then secN (bytesN G.length g) (i - offOf G) else readN sb dm i) :
    OnDisk sb dm' ((G.length, (offOf G, secsOf g), []) :: without m G.length) (G ++ [g]) := by
  refine ⟨fun j hj => ?_, fun j hj => ?_, fun j hj i hi => ?_⟩
  · rw [List.length_append] at hj
    have hj : j < G.length + 1 := hj
    by_cases e : j = G.length
    · subst e
      rw [lk_cons_same]
      simp
    · have hj2 : j < G.length := by omega
      rw [lk_cons_other _ _ _ _ e, lk_without_other _ _ _ e, h.has j hj2, List.take_append_of_le_length (by omega), List.getElem_append_left hj2]
  · rw [List.length_append] at hj
    have hj : G.length + 1 ≤ j := hj
    rw [lk_cons_other _ _ _ _ (by omega), lk_without_other _ _ _ (by omega)]
    exact h.no j (by omega)
  · rw [List.length_append] at hj
    have hj : j < G.length + 1 := hj
    by_cases e : j = G.length
    · subst e
      simp only [List.getElem_concat_length] at hi ⊢
      rw [List.take_append_of_le_length (Nat.le_refl _), List.take_length, hrd, if_pos (by omega)]
      congr 1
      omega
    · have hj2 : j < G.length := by omega
      rw [List.getElem_append_left hj2] at hi ⊢
      rw [List.take_append_of_le_length (by omega), hrd, if_neg (by have := offOf_take_le G j hj2; omega)]
      exact h.bytes j hj2 i hi
/-- A packer stays where blocks of other kinds turn. -/
theorem PK.off {W W' : World} {b id wide : Nat} {L : Grp} (h : PK sumN W b id wide L) {S : Nat → Prop} (hg : Gr S W W') (h1 : ¬ S b) (h2 : ∀ k, S k → ∀ cs t x, (t = 117 ∨ t = 5) → W.heap[k]? ≠ some (Obj.cells cs t x)) : PK sumN W' b id wide L :=
  h.move sumN (fun g cs t x ht hh => hg.block g (Array.getElem?_eq_some_iff.1 hh).1 (fun hS => by
    rcases ht with e | e | ⟨_, e⟩
    · exact h2 g hS cs t x (.inl e) hh
    · exact h2 g hS cs t x (.inr e) hh
    · exact h1 (e ▸ hS)))
end Go.Proofs.YtbcamfbbooggfaaGreat.F
end
