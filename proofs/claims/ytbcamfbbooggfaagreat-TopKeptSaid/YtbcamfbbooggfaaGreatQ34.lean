/- Part 34 of the proof: O7, O8, O9, Oa. -/
import Derived.Test.YtbcamfbbooggfaaGreatQ31
import Derived.Test.YtbcamfbbooggfaaGreatQ33

section
/- The state of the packing loop, with no program in sight but the sealing closure. -/
set_option linter.unusedVariables false
set_option linter.unusedSimpArgs false
namespace Go.Proofs.YtbcamfbbooggfaaGreat.F
open Go.RowKit Go.Proofs.YtbcamfbbooggfaaGreatW.PrintWords Go.Maps

/-- The chunks up to i: the sealed ones, and those of the packer at hand. -/
structure PackI (cs : List (List Nat)) (i : Nat) (G : List Grp) (cur : Grp) : Prop where
  cat : G.flatten ++ cur = cs.take i
  ok : ∀ g ∈ G, GOk g
  ch : Chunks cur
  sz : gsz cur ≤ 1920
theorem PackI.nil (cs : List (List Nat)) : PackI cs 0 [] [] := ⟨by simp, by simp, ⟨by decide, by simp⟩, by decide⟩
theorem PackI.add {cs : List (List Nat)} {i : Nat} {G : List Grp} {cur : Grp} (h : PackI cs i G cur) (hi : i < cs.length) (hc : 1 ≤ cs[i].length ∧ cs[i].length ≤ 512 ∧ ∀ x ∈ cs[i], x < 256) (hr : cs[i].length ≤ roomN 16 cur.length cur.flatten.length) : PackI cs (i + 1) G (cur ++ [cs[i]]) := by
  have hs := h.sz
  unfold gsz at hs
  have hz := room_sz (by omega) hr hc.1
  refine ⟨?_, h.ok, ⟨?_, fun p hp => ?_⟩, ?_⟩
  · rw [← List.append_assoc, h.cat, List.take_succ_eq_append_getElem hi]
  · rw [List.length_append, List.length_singleton]; omega
  · rcases List.mem_append.1 hp with hp | hp
    · exact h.ch.2 p hp
    · rw [List.mem_singleton.1 hp]; exact hc
  · unfold gsz
    rw [List.flatten_append, List.flatten_singleton, List.length_append, List.length_append, List.length_singleton]
    omega
theorem PackI.shut {cs : List (List Nat)} {i p : Nat} {G : List Grp} {cur : Grp} (h : PackI cs i G cur) (h0 : 0 < cur.length) (hp : p ≤ 512) (hr : roomN 16 cur.length cur.flatten.length < p) : PackI cs i (G ++ [cur]) [] :=
  ⟨by rw [List.flatten_append, List.flatten_singleton, List.append_nil]; exact h.cat, fun g hg => by
    rcases List.mem_append.1 hg with hg | hg
    · exact h.ok g hg
    · rw [List.mem_singleton.1 hg]
      exact ⟨h.ch, h0, room_full hp hr, h.sz⟩, ⟨by decide, by simp⟩, by decide⟩
theorem take_flat_le (cs : List (List Nat)) (i : Nat) : (cs.take i).flatten.length ≤ cs.flatten.length := by
  have e := congrArg List.flatten (List.take_append_drop i cs)
  rw [List.flatten_append] at e
  have := congrArg List.length e
  rw [List.length_append] at this
  omega
theorem PackI.few {cs : List (List Nat)} {i : Nat} {G : List Grp} {cur : Grp} (h : PackI cs i G cur) (h1 : cs.length ≤ 256) (h2 : cs.flatten.length ≤ 4000) : G.length ≤ 9 ∧ offOf G ≤ 144 := by
  have hf := _root_.Go.Proofs.YtbcamfbbooggfaaGreat.F.few G (fun g hg => ⟨(h.ok g hg).2.2.1, (h.ok g hg).2.2.2⟩)
  have e1 := congrArg List.length h.cat
  have e2 := congrArg (fun l => (List.flatten l).length) h.cat
  simp only [List.flatten_append] at e2
  rw [List.length_append] at e1 e2
  have h3 := take_flat_le cs i
  have h4 := List.length_take_le i cs
  have h5 := List.length_take_le' i cs
  omega
theorem chunks_flat_pos {g : Grp} (h : Chunks g) (h0 : 0 < g.length) : 0 < g.flatten.length := by
  match g, h0 with
  | p :: t, _ =>
    have := (h.2 p (List.mem_cons_self ..)).1
    rw [List.flatten_cons, List.length_append]
    omega
theorem PackI.secs {cs : List (List Nat)} {i : Nat} {G : List Grp} {cur : Grp} (h : PackI cs i G cur) (h0 : 0 < cur.length) : 2 ≤ secsOf cur ∧ secsOf cur ≤ 16 := secsOf_ge cur h0 h.sz (chunks_flat_pos h.ch h0)

/-- Disk, shelf, free sectors, and places: what is sealed lies there. -/
structure StA (W0 W : World) (gsh gp s db gs mb er rb : Nat) (sb : List (List Nat)) (G : List Grp) : Prop where
  below : Below W0.heap.size W0 W
  disk : ∃ dm m, DK W db gs mb 4096 sb dm 0 false 0 ∧ SH W s db er rb m ∧ OnDisk sb dm m G
  em : EM W W0.heap.size er 0 4096 [(offOf G, 4096 - offOf G)]
  sh : W.heap[gsh]? = some (.cells #[.pointer (some ⟨s, 0, none⟩)] 43 (0, 0))
  pl : PlAt W W0.heap.size gp (plFrom 0 0 G)
  ne : rb ≠ mb
  lo : W0.heap.size ≤ gsh ∧ W0.heap.size ≤ gp ∧ W0.heap.size ≤ s ∧ W0.heap.size ≤ db ∧ W0.heap.size ≤ gs ∧ W0.heap.size ≤ mb ∧ W0.heap.size ≤ er ∧ W0.heap.size ≤ rb
section
variable {W0 W W' : World} {gsh gp s db gs mb er rb : Nat} {sb : List (List Nat)} {G : List Grp}
theorem StA.next (h : StA W0 W gsh gp s db gs mb er rb sb G) (hb : Below W.heap.size W W') : StA W0 W' gsh gp s db gs mb er rb sb G := by
  obtain ⟨dm, m, h1, h2, h3⟩ := h.disk
  exact ⟨h.below.trans (hb.mono h.below.size), ⟨dm, m, h1.below hb, h2.below hb, h3⟩, h.em.below hb, (hb.block _ (Array.getElem?_eq_some_iff.1 h.sh).1).trans h.sh, h.pl.below hb, h.ne, h.lo⟩
theorem StA.off (h : StA W0 W gsh gp s db gs mb er rb sb G) {S : Nat → Prop} (hg : Gr S W W') (hS : ∀ k, S k → W0.heap.size ≤ k ∧ ∃ cs t x, W.heap[k]? = some (Obj.cells cs t x) ∧ (t = 115 ∨ t = 49 ∨ t = 64)) : StA W0 W' gsh gp s db gs mb er rb sb G := by
  obtain ⟨dm, m, h1, h2, h3⟩ := h.disk
  have ap : ∀ k, S k → ∀ cs t x, W.heap[k]? = some (Obj.cells cs t x) → (t = 115 ∨ t = 49 ∨ t = 64) := fun k hk cs t x hh => by
    obtain ⟨_, cs', t', x', hh', ht⟩ := hS k hk
    rw [hh'] at hh
    injection hh with hh
    injection hh with _ e _
    rw [← e]; exact ht
  refine ⟨h.below.trans (hg.below h.below.size (fun k hk => (hS k hk).1)), ⟨dm, m, h1.off hg (fun k hk => ?_) (fun k hk cs x e => ?_), h2.off hg (fun e => ?_) (fun e => ?_), h3⟩, h.em.off hg (fun e => ?_) (fun k hk cs e => ?_), ?_, h.pl.off hg (fun e => ?_) (fun k hk cs x e => ?_), h.ne, h.lo⟩
  · obtain ⟨_, cs, t, x, hh, ht⟩ := hS k hk
    exact h1.apart hh (by rcases ht with rfl | rfl | rfl <;> decide) (by rcases ht with rfl | rfl | rfl <;> decide)
  · exact absurd (ap k hk _ _ _ e) (by decide)
  · obtain ⟨⟨_, _, q⟩, _⟩ := h2.typed
    exact absurd (ap _ e _ _ _ q) (by decide)
  · obtain ⟨_, ⟨_, _, q⟩⟩ := h2.typed
    obtain ⟨_, _, _, _, hh, _⟩ := hS _ e
    exact map_ne hh q rfl
  · obtain ⟨_, _, q⟩ := h.em.typed
    exact absurd (ap _ e _ _ _ q) (by decide)
  · exact absurd (ap k hk _ _ _ e) (by decide)
  · exact (hg.block _ (Array.getElem?_eq_some_iff.1 h.sh).1 (fun e => absurd (ap _ e _ _ _ h.sh) (by decide))).trans h.sh
  · obtain ⟨_, _, q⟩ := h.pl.typed
    exact absurd (ap _ e _ _ _ q) (by decide)
  · exact absurd (ap k hk _ _ _ e) (by decide)
end
theorem secsOf_def (g : Grp) : secsOf g = (128 + g.flatten.length + 34 * g.length + 127) / 128 := rfl
/-- The closure seals the packer at hand. -/
theorem SealG_c {W0 : World} {gsh gp gk s db gs mb er rb pb n : Nat} {sb : List (List Nat)} {G : List Grp} {cur : Grp} {rv : Value} {F : List Value} (W : World) (h : StA W0 W gsh gp s db gs mb er rb sb G)
    (hk : W.heap[gk]? = some (.cells #[.pointer (some ⟨pb, 0, none⟩)] 49 (0, 0))) (hp : PK sumN W pb G.length 16 cur) (hc : Chunks cur) (h0 : 0 < cur.length) (hz : gsz cur ≤ 1920) (hG : G.length ≤ 9 ∧ offOf G ≤ 144)
    (hr : W.ownsRow W0.heap.size 64 35 rv n F) :
    Calls Tryz.prog 10 #[.pointer (some ⟨gsh, 0, none⟩), .pointer (some ⟨gk, 0, none⟩), .pointer (some ⟨gp, 0, none⟩)] W fun e w' => e = .returned (.bool true) ∧ StA W0 w' gsh gp s db gs mb er rb sb (G ++ [cur]) ∧
      w'.heap[gk]? = some (.cells #[.pointer (some ⟨pb, 0, none⟩)] 49 (0, 0)) ∧ w'.ownsRow W0.heap.size 64 35 rv n F := by
  obtain ⟨dm, m, h1, h2, h3⟩ := h.disk
  have hs := secsOf_ge cur h0 hz (chunks_flat_pos hc h0)
  refine (SealK_c (id := G.length) (at0 := offOf G) (N := secsOf cur) (L := cur) (wide := 16) (t := 4096) (n := 4096) (bp := W0.heap.size) W h1 h2 h.ne h.em h.below.size hp (by omega) hc h0 (h3.no _ (Nat.le_refl _)) (secsOf_def cur)
    (takeF_one _ _ (by omega) (by omega)) (by simp) (fun r hr => by rw [List.mem_singleton.1 hr]; show offOf G + (4096 - offOf G) ≤ 4096; omega) (by omega) h.sh hk h.pl h.below.size (by rw [plFrom_len]; omega)).mono ?_
  rintro e w' ⟨rfl, ⟨dm', d1, d2⟩, s1, e1, p1, g1⟩
  have hl := h.lo
  have low : ∀ k, SealS db gs mb er rb gp W0.heap.size W k → W0.heap.size ≤ k := fun k hk => by
    rcases hk with (e | e | e) | e | e | e | ⟨e, _⟩ <;> omega
  have ap : ∀ k cs t x, W.heap[k]? = some (Obj.cells cs t x) → t = 43 ∨ t = 49 ∨ t = 64 → ¬ SealS db gs mb er rb gp W0.heap.size W k := fun k cs t x hh ht hS => by
    rcases hS with e | e | e | e | ⟨_, cs', x', e⟩
    · exact h1.apart hh (by rcases ht with rfl | rfl | rfl <;> decide) (by rcases ht with rfl | rfl | rfl <;> decide) e
    · obtain ⟨_, _, q⟩ := h.em.typed
      exact cells_ne hh q (by rcases ht with rfl | rfl | rfl <;> decide) e
    · obtain ⟨_, ⟨_, _, q⟩⟩ := h2.typed
      exact map_ne hh q e
    · obtain ⟨_, _, q⟩ := h.pl.typed
      exact cells_ne hh q (by rcases ht with rfl | rfl | rfl <;> decide) e
    · exact cells_ne hh e (by rcases ht with rfl | rfl | rfl <;> decide) rfl
  have eo : offOf (G ++ [cur]) = offOf G + secsOf cur := by rw [offOf_append]; rfl
  refine ⟨rfl, ⟨h.below.trans (g1.below h.below.size low), ⟨dm', _, d1, s1, h3.snoc cur d2⟩, by rw [eo]; exact e1, (g1.block _ (Array.getElem?_eq_some_iff.1 h.sh).1 (ap _ _ _ _ h.sh (.inl rfl))).trans h.sh, ?_, h.ne, h.lo⟩,
    (g1.block _ (Array.getElem?_eq_some_iff.1 hk).1 (ap _ _ _ _ hk (.inr (.inl rfl)))).trans hk, own_move hr (fun k hk => ?_)⟩
  · have := plFrom_snoc 0 0 G cur
    rw [Nat.zero_add, Nat.zero_add] at this
    rw [this]; exact p1
  · obtain ⟨_, cs, x, hh⟩ := own_typed hr hk
    exact g1.block k (Array.getElem?_eq_some_iff.1 hh).1 (ap _ _ _ _ hh (.inr (.inr rfl)))
/-- All of the packing loop's state: the packer's variable and what it packs, the references too. -/
structure StB (W0 W : World) (gsh gp gk s db gs mb er rb : Nat) (sb : List (List Nat)) (G : List Grp) (kv : Option Nat) (cur : Grp) (rv : Value) (rl : List Rf) : Prop where
  a : StA W0 W gsh gp s db gs mb er rb sb G
  k : W.heap[gk]? = some (.cells #[kvV kv] 49 (0, 0))
  lo : W0.heap.size ≤ gk
  pk : ∀ pb, kv = some pb → PK sumN W pb G.length 16 cur ∧ W0.heap.size ≤ pb
  refs : W.ownsRow W0.heap.size 64 35 rv rl.length (flatRf rl)
section
variable {W0 W W' : World} {gsh gp gk s db gs mb er rb : Nat} {sb : List (List Nat)} {G : List Grp} {kv : Option Nat} {cur : Grp} {rv : Value} {rl : List Rf}
theorem StB.next (h : StB W0 W gsh gp gk s db gs mb er rb sb G kv cur rv rl) (hb : Below W.heap.size W W') : StB W0 W' gsh gp gk s db gs mb er rb sb G kv cur rv rl :=
  ⟨h.a.next hb, (hb.block _ (Array.getElem?_eq_some_iff.1 h.k).1).trans h.k, h.lo, fun pb e => ⟨(h.pk pb e).1.below sumN hb, (h.pk pb e).2⟩, pw_own_below h.refs hb⟩
/-- The packer's variable is set. -/
theorem StB.put {u : Value} (a : StA W0 W gsh gp s db gs mb er rb sb G) (k : W.heap[gk]? = some (.cells #[u] 49 (0, 0))) (lo : W0.heap.size ≤ gk) (refs : W.ownsRow W0.heap.size 64 35 rv rl.length (flatRf rl))
    (kv : Option Nat) (cur : Grp) (pk : ∀ pb, kv = some pb → PK sumN W pb G.length 16 cur ∧ W0.heap.size ≤ pb) : StB W0 (W.setCell ⟨gk, 0, none⟩ (kvV kv)) gsh gp gk s db gs mb er rb sb G kv cur rv rl := by
  have hg : Gr (fun x => x = gk) W (W.setCell ⟨gk, 0, none⟩ (kvV kv)) := Gr.setCell (S := fun x => x = gk) _ _ _ rfl
  refine ⟨a.off hg (fun x hx => by subst hx; exact ⟨lo, _, _, _, k, .inr (.inl rfl)⟩), heap_setCell_same _ _ 0 _ _ _ k, lo, fun pb e => ⟨(pk pb e).1.off hg (fun e2 => ?_) (fun x hx cs t y ht e2 => ?_), (pk pb e).2⟩, own_move refs (fun x hx => ?_)⟩
  · obtain ⟨_, _, q⟩ := (pk pb e).1.typed
    exact cells_ne q k (by decide) e2
  · subst hx
    exact cells_ne k e2 (by rcases ht with rfl | rfl <;> decide) rfl
  · obtain ⟨_, _, _, hh⟩ := own_typed refs hx
    exact hg.block x (Array.getElem?_eq_some_iff.1 hh).1 (fun e => cells_ne hh k (by decide) e)
/-- A chunk is added. -/
theorem StB.add {pb : Nat} {T : Nat → Prop} {c : List Nat} (h : StB W0 W gsh gp gk s db gs mb er rb sb G (some pb) cur rv rl) (hp : PKd sumN T W' pb G.length 16 (cur ++ [c])) (hg : Gr (fun x => x = pb) W W') : StB W0 W' gsh gp gk s db gs mb er rb sb G (some pb) (cur ++ [c]) rv rl := by
  obtain ⟨h1, h2⟩ := h.pk pb rfl
  obtain ⟨_, _, q⟩ := h1.typed
  refine ⟨h.a.off hg (fun x hx => by subst hx; exact ⟨h2, _, _, _, q, .inl rfl⟩), (hg.block _ (Array.getElem?_eq_some_iff.1 h.k).1 (fun e => cells_ne h.k q (by decide) e)).trans h.k, h.lo, fun pb' e => ?_, own_move h.refs (fun x hx => ?_)⟩
  · cases e; exact ⟨hp.pk, h2⟩
  · obtain ⟨_, _, _, hh⟩ := own_typed h.refs hx
    exact hg.block x (Array.getElem?_eq_some_iff.1 hh).1 (fun e => cells_ne hh q (by decide) e)
/-- A reference is appended. -/
theorem StB.grow {rv' : Value} {rl' : List Rf} (h : StB W0 W gsh gp gk s db gs mb er rb sb G kv cur rv rl) (hr : W'.ownsRow W0.heap.size 64 35 rv' rl'.length (flatRf rl')) (hgr : W.grownBy W' rv.ownBlock) : StB W0 W' gsh gp gk s db gs mb er rb sb G kv cur rv' rl' := by
  have hg := gr_own hgr
  refine ⟨h.a.off hg (fun x hx => ?_), (hg.block _ (Array.getElem?_eq_some_iff.1 h.k).1 (fun e => ?_)).trans h.k, h.lo, fun pb e => ⟨(h.pk pb e).1.off hg (fun e2 => ?_) (fun x hx cs t y ht e2 => ?_), (h.pk pb e).2⟩, hr⟩
  · obtain ⟨hl, cs, y, hh⟩ := own_typed h.refs hx
    exact ⟨hl, _, _, _, hh, .inr (.inr rfl)⟩
  · obtain ⟨_, cs, y, hh⟩ := own_typed h.refs e
    exact cells_ne hh h.k (by decide) rfl
  · obtain ⟨_, cs, y, hh⟩ := own_typed h.refs e2
    obtain ⟨_, _, q⟩ := (h.pk pb e).1.typed
    exact cells_ne hh q (by decide) rfl
  · obtain ⟨_, cs', y', hh⟩ := own_typed h.refs hx
    exact cells_ne hh e2 (by rcases ht with rfl | rfl <;> decide) rfl
end
end Go.Proofs.YtbcamfbbooggfaaGreat.F
end

section
/- The state behind the crash: the places are claimed, the recipe read. -/
set_option linter.unusedVariables false
set_option linter.unusedSimpArgs false
namespace Go.Proofs.YtbcamfbbooggfaaGreat.F
open Go.RowKit Go.Proofs.YtbcamfbbooggfaaGreatW.PrintWords Go.Maps

/-- All that was sealed: G, on a disk that has crashed; the first j of it are claimed again. -/
structure Claimed (sb : List (List Nat)) (m : List (Nat × Sec × List Nat)) (G : List Grp) (j : Nat) : Prop where
  has : ∀ i (h : i < G.length), i < j → lk m i = some ((offOf (G.take i), secsOf G[i]), [])
  no : ∀ i, j ≤ i → lk m i = none
theorem Claimed.nil (sb : List (List Nat)) (G : List Grp) : Claimed sb [] G 0 := ⟨fun i _ h => by omega, fun i _ => rfl⟩
theorem Claimed.succ {sb : List (List Nat)} {m : List (Nat × Sec × List Nat)} {G : List Grp} {j : Nat} (h : Claimed sb m G j) (hj : j < G.length) : Claimed sb ((j, (offOf (G.take j), secsOf G[j]), []) :: without m j) G (j + 1) := by
  refine ⟨fun i hi hlt => ?_, fun i hi => ?_⟩
  · by_cases e : i = j
    · subst e; rw [lk_cons_same]
    · rw [lk_cons_other _ _ _ _ e, lk_without_other _ _ _ e]
      exact h.has i hi (by omega)
  · rw [lk_cons_other _ _ _ _ (by omega), lk_without_other _ _ _ (by omega)]
    exact h.no i (by omega)
theorem offOf_take_succ (G : List Grp) (j : Nat) (h : j < G.length) : offOf (G.take (j + 1)) = offOf (G.take j) + secsOf G[j] := by
  rw [List.take_succ_eq_append_getElem h, offOf_append]; rfl
/-- What the final groups are. -/
structure Fin0 (cs : List (List Nat)) (G : List Grp) : Prop where
  cat : G.flatten = cs
  ok : ∀ g ∈ G, Chunks g ∧ 0 < g.length ∧ gsz g ≤ 1920
  few : G.length ≤ 10 ∧ offOf G ≤ 160
theorem PackI.fin {cs : List (List Nat)} {G : List Grp} {cur : Grp} (h : PackI cs cs.length G cur) (h0 : 0 < cur.length) (h1 : cs.length ≤ 256) (h2 : cs.flatten.length ≤ 4000) : Fin0 cs (G ++ [cur]) := by
  have hf := h.few h1 h2
  have hs := h.secs h0
  refine ⟨?_, fun g hg => ?_, ?_⟩
  · rw [List.flatten_append, List.flatten_singleton, h.cat, List.take_length]
  · rcases List.mem_append.1 hg with hg | hg
    · exact ⟨(h.ok g hg).1, (h.ok g hg).2.1, (h.ok g hg).2.2.2⟩
    · rw [List.mem_singleton.1 hg]; exact ⟨h.ch, h0, h.sz⟩
  · rw [offOf_append, List.length_append, List.length_singleton]
    have : offOf [cur] = secsOf cur := rfl
    omega
theorem PackI.fin0 {cs : List (List Nat)} {G : List Grp} (h : PackI cs cs.length G []) (h1 : cs.length ≤ 256) (h2 : cs.flatten.length ≤ 4000) : Fin0 cs G := by
  have hf := h.few h1 h2
  refine ⟨?_, fun g hg => ⟨(h.ok g hg).1, (h.ok g hg).2.1, (h.ok g hg).2.2.2⟩, by omega⟩
  have := h.cat
  rw [List.append_nil, List.take_length] at this
  exact this
theorem Fin0.secs {cs : List (List Nat)} {G : List Grp} (h : Fin0 cs G) (j : Nat) (hj : j < G.length) : 2 ≤ secsOf G[j] ∧ secsOf G[j] ≤ 16 ∧ offOf (G.take j) + secsOf G[j] ≤ 160 := by
  have h1 := h.ok G[j] (List.getElem_mem hj)
  have h2 := secsOf_ge G[j] h1.2.1 h1.2.2 (chunks_flat_pos h1.1 h1.2.1)
  have h3 := offOf_take_le G j hj
  have h4 := h.few
  omega
/-- The references that TopKept made. -/
theorem refs_ok {cs : List (List Nat)} {G : List Grp} (h : Fin0 cs G) : ∀ r ∈ refsOf 0 G, RfOk r := fun r hr => by
  obtain ⟨i, hi, rfl⟩ := List.getElem_of_mem hr
  have hl := refsOf_len 0 G
  obtain ⟨j, s, hj, hs, e, e2⟩ := refsOf_get 0 G i (by omega) hi
  rw [e]
  have h1 := h.ok G[j] (List.getElem_mem hj)
  have h2 := h1.1.2 G[j][s] (List.getElem_mem hs)
  have h3 := h1.1.1
  have h4 := h1.2.2
  have h5 := h.few
  unfold gsz at h4
  rw [← e2]
  exact ⟨sumN_len _, sumN_lt _, h2.1, h2.2.1, by show 0 + j < 4096; omega, by show s < 64; omega⟩
theorem refs_len {cs : List (List Nat)} {G : List Grp} (h : Fin0 cs G) : (refsOf 0 G).length = cs.length := by rw [refsOf_len, h.cat]
theorem refs_at {cs : List (List Nat)} {G : List Grp} (h : Fin0 cs G) (t : Nat) (ht : t < (refsOf 0 G).length) : ∃ j s, ∃ (hj : j < G.length) (hs : s < G[j].length), (refsOf 0 G)[t] = (sumN (cs.getD t []), (cs.getD t []).length, j, s) ∧ G[j][s] = cs.getD t [] := by
  have hl := refsOf_len 0 G
  obtain ⟨j, s, hj, hs, e, e2⟩ := refsOf_get 0 G t (by omega) ht
  have hc : G.flatten[t]'(by omega) = cs.getD t [] := by
    have : cs.getD t [] = G.flatten.getD t [] := by rw [h.cat]
    rw [this, List.getD_eq_getElem?_getD, List.getElem?_eq_getElem (by omega)]; rfl
  rw [hc] at e e2
  rw [Nat.zero_add] at e
  exact ⟨j, s, hj, hs, e, e2⟩
theorem refs_lens {cs : List (List Nat)} {G : List Grp} (h : Fin0 cs G) (t : Nat) (ht : t < (refsOf 0 G).length) : (refsOf 0 G)[t].2.1 = (cs.getD t []).length := by
  obtain ⟨j, s, _, _, e, _⟩ := refs_at h t ht
  rw [e]

/-- The state while places are claimed. -/
structure StC (W0 W : World) (gsh gp s db gs mb er rb : Nat) (sb : List (List Nat)) (G : List Grp) (j : Nat) (rv : Value) (rl : List Rf) : Prop where
  below : Below W0.heap.size W0 W
  disk : DK W db gs mb 4096 sb [] 0 false 1
  shelf : ∃ m, SH W s db er rb m ∧ Claimed sb m G j
  em : EM W W0.heap.size er 0 4096 [(offOf (G.take j), 4096 - offOf (G.take j))]
  sh : W.heap[gsh]? = some (.cells #[.pointer (some ⟨s, 0, none⟩)] 43 (0, 0))
  pl : PlAt W W0.heap.size gp (plFrom 0 0 G)
  refs : W.ownsRow W0.heap.size 64 35 rv rl.length (flatRf rl)
  ne : rb ≠ mb
  lo : W0.heap.size ≤ er ∧ W0.heap.size ≤ rb
section
variable {W0 W W' : World} {gsh gp s db gs mb er rb j : Nat} {sb : List (List Nat)} {G : List Grp} {rv : Value} {rl : List Rf}
theorem StC.next (h : StC W0 W gsh gp s db gs mb er rb sb G j rv rl) (hb : Below W.heap.size W W') : StC W0 W' gsh gp s db gs mb er rb sb G j rv rl := by
  obtain ⟨m, h1, h2⟩ := h.shelf
  exact ⟨h.below.trans (hb.mono h.below.size), h.disk.below hb, ⟨m, h1.below hb, h2⟩, h.em.below hb, (hb.block _ (Array.getElem?_eq_some_iff.1 h.sh).1).trans h.sh, h.pl.below hb, pw_own_below h.refs hb, h.ne, h.lo⟩
end
/-- A place is claimed. -/
theorem ClaimG_c {W0 : World} {gsh gp s db gs mb er rb j : Nat} {sb : List (List Nat)} {G : List Grp} {rv : Value} {rl : List Rf} {cs : List (List Nat)} (W : World) (h : StC W0 W gsh gp s db gs mb er rb sb G j rv rl) (hf : Fin0 cs G) (hj : j < G.length) :
    Calls Tryz.prog 18 #[.pointer (some ⟨s, 0, none⟩), .agg #[.int .i64 (j : Nat), .int .i64 (offOf (G.take j) : Nat), .int .i64 (secsOf G[j] : Nat)]] W fun e w' => e = .returned (.int .i64 0) ∧ StC W0 w' gsh gp s db gs mb er rb sb G (j + 1) rv rl := by
  obtain ⟨m, h1, h2⟩ := h.shelf
  have hs := hf.secs j hj
  have h3 := hf.few
  refine (BClaim_c (bn := j) (at0 := offOf (G.take j)) (N := secsOf G[j]) W h1 h.em h.below.size (h2.no j (Nat.le_refl _)) (by omega) (by omega) (by omega) (claimF_one _ _ (by omega) (by omega)) (by simp) (fun r hr => by rw [List.mem_singleton.1 hr]; show offOf (G.take j) + (4096 - offOf (G.take j)) ≤ 4096; omega)).mono ?_
  rintro e w' ⟨rfl, s1, e1, g1⟩
  have hl := h.lo
  have ap : ∀ k cs t x, W.heap[k]? = some (Obj.cells cs t x) → t ≠ 88 → ¬ (k = er ∨ k = rb) := fun k cs t x hh ht hS => by
    rcases hS with e | e
    · obtain ⟨_, _, q⟩ := h.em.typed
      exact cells_ne hh q ht e
    · obtain ⟨_, ⟨_, _, q⟩⟩ := h1.typed
      exact map_ne hh q e
  refine ⟨rfl, h.below.trans (g1.below h.below.size (fun k hk => by rcases hk with e | e <;> omega)), h.disk.off g1 (fun k hk => ?_) (fun k hk cs x e => ap _ _ _ _ e (by decide) hk), ⟨_, s1, h2.succ hj⟩, by rw [offOf_take_succ G j hj]; exact e1,
    (g1.block _ (Array.getElem?_eq_some_iff.1 h.sh).1 (ap _ _ _ _ h.sh (by decide))).trans h.sh, h.pl.off g1 (fun hk => ?_) (fun k hk cs x e => ap _ _ _ _ e (by decide) hk), own_move h.refs (fun k hk => ?_), h.ne, h.lo⟩
  · rcases hk with e | e
    · subst e
      obtain ⟨_, _, q⟩ := h.em.typed
      exact h.disk.apart q (by decide) (by decide)
    · subst e
      obtain ⟨_, ⟨_, _, q⟩⟩ := h1.typed
      exact h.disk.apartM q h.ne
  · obtain ⟨_, _, q⟩ := h.pl.typed
    exact ap _ _ _ _ q (by decide) hk
  · obtain ⟨_, cs, x, hh⟩ := own_typed h.refs hk
    exact g1.block k (Array.getElem?_eq_some_iff.1 hh).1 (ap _ _ _ _ hh (by decide))
/-- A chunk is read again by its reference. -/
theorem ChunkG_c {W0 : World} {gsh gp s db gs mb er rb : Nat} {sb : List (List Nat)} {G : List Grp} {rv : Value} {rl : List Rf} {cs : List (List Nat)} (W : World) (h : StC W0 W gsh gp s db gs mb er rb sb G G.length rv rl) (hf : Fin0 cs G)
    (hb : ∀ j (hj : j < G.length) i, i < secsOf G[j] → readN sb [] (offOf (G.take j) + i) = secN (bytesN j G[j]) i) (j k : Nat) (hj : j < G.length) (hk : k < G[j].length) (c : List Nat) (hc : G[j][k] = c) :
    Calls Tryz.prog 22 #[.pointer (some ⟨s, 0, none⟩), .int .i64 (j : Nat), .int .i64 (k : Nat)] W fun e w' => ∃ A cp, e = .returned (.tuple #[.slice A c.length cp, .int .i64 0]) ∧ c.length ≤ cp ∧ RN .u8 w' A c ∧ Below W.heap.size W w' := by
  obtain ⟨m, h1, h2⟩ := h.shelf
  have hs := hf.secs j hj
  have := BChunkL_c (bn := j) (at0 := offOf (G.take j)) (N := secsOf G[j]) (L := G[j]) k W h.disk h1 (h2.has j hj hj) (by omega) (hf.ok _ (List.getElem_mem hj)).1 (secsOf_def _) (hb j hj) hk
  rw [hc] at this
  exact this
end Go.Proofs.YtbcamfbbooggfaaGreat.F
end

section
/- Small laws that TopKept's walk asks. -/
set_option linter.unusedVariables false
set_option linter.unusedSimpArgs false
namespace Go.Proofs.YtbcamfbbooggfaaGreat.F
open Go.RowKit Go.Proofs.YtbcamfbbooggfaaGreatW.PrintWords Go.Maps

/-- A reference out of its parts. -/
theorem ref_eq : ∀ parts, Tryz.prog.built 64 parts = Instr.fill (fun i => (#[(0, 32), (32, 1), (33, 1), (34, 1)] : Array (Nat × Nat))[i]?) zeroRf parts := fun _ => by kernel_rfl
set_option maxHeartbeats 1000000 in
theorem built_ref (q : List Nat) (x y z : Int) (hq : q.length = 32) :
    Tryz.prog.built 64 [(0, .agg (q.map (encN .u8)).toArray), (1, .int .i64 x), (2, .int .i64 y), (3, .int .i64 z)] = some (q.map (encN .u8) ++ [Value.int .i64 x, Value.int .i64 y, Value.int .i64 z]).toArray := by
  rw [ref_eq]
  have s1 : (Value.agg (q.map (encN .u8)).toArray).cells = (q.map (encN .u8)).toArray := rfl
  have s2 : ∀ x : Int, (Value.int .i64 x).cells = #[.int .i64 x] := fun _ => rfl
  have s4 : (q.map (encN .u8)).toArray.size = 32 := by simp [hq]
  simp only [Instr.fill, s1, s2]
  simp only [show (#[(0, 32), (32, 1), (33, 1), (34, 1)] : Array (Nat × Nat))[0]? = some (0, 32) from rfl, show (#[(0, 32), (32, 1), (33, 1), (34, 1)] : Array (Nat × Nat))[1]? = some (32, 1) from rfl, show (#[(0, 32), (32, 1), (33, 1), (34, 1)] : Array (Nat × Nat))[2]? = some (33, 1) from rfl, show (#[(0, 32), (32, 1), (33, 1), (34, 1)] : Array (Nat × Nat))[3]? = some (34, 1) from rfl]
  rw [if_neg (by rw [zeroRf_size, s4]; simp), if_neg (by rw [splice_size, zeroRf_size]; simp), if_neg (by rw [splice_size, splice_size, zeroRf_size]; simp), if_neg (by rw [splice_size, splice_size, splice_size, zeroRf_size]; simp)]
  congr 1
  apply Array.ext_getElem?
  intro k
  rw [splice_arr, splice_size, splice_size, splice_size, splice_arr, splice_size, splice_size, splice_arr, splice_size, splice_arr, zeroRf_size, s4]
  simp only [List.getElem?_toArray]
  have e1 : ∀ x : Int, (#[Value.int .i64 x] : Array Value).size = 1 := fun _ => rfl
  rw [e1, e1, e1]
  by_cases h4 : k = 34
  · subst h4
    rw [if_pos (by omega), List.getElem?_append_right (by simp [hq])]
    simp [hq]
  · rw [if_neg (by omega)]
    by_cases h3 : k = 33
    · subst h3
      rw [if_pos (by omega), List.getElem?_append_right (by simp [hq])]
      simp [hq]
    · rw [if_neg (by omega)]
      by_cases h2 : k = 32
      · subst h2
        rw [if_pos (by omega), List.getElem?_append_right (by simp [hq])]
        simp [hq]
      · rw [if_neg (by omega)]
        by_cases h1 : k < 32
        · rw [if_pos (by omega), List.getElem?_append_left (by simp [hq]; omega)]
          simp
        · rw [if_neg (by omega), List.getElem?_append_right (by simp [hq]; omega)]
          have a1 : zeroRf[k]? = none := by rw [Array.getElem?_eq_none_iff, zeroRf_size]; omega
          rw [a1, eq_comm, List.getElem?_eq_none_iff]
          simp [hq]; omega
theorem infoRf2 : (Tryz.prog.info? 64).map (fun i => (i.zero, i.size)) = some (some (.agg zeroRf), 35) := by kernel_rfl
theorem flatRf_snoc (l : List Rf) (r : Rf) : flatRf (l ++ [r]) = flatRf l ++ rfCells r := by simp [flatRf]
theorem yields_build4 {P : Program} {ops : Array Oper} {S : World → Prop} {op : Oper} {a : Act} (hw : Region.wanted op (yielded ops a.tmps) = true) (t : TypeId) (x y z u : Operand) (ho : op.op = .build t #[(0, x), (1, y), (2, z), (3, u)]) (vx vy vz vu : Value) (hx : a.eval x = vx) (hy : a.eval y = vy) (hz : a.eval z = vz) (hu : a.eval u = vu) (cs : Array Value)
    (hb : P.built t [(0, vx), (1, vy), (2, vz), (3, vu)] = some cs) : YieldsIf P ops S op (.agg cs) a :=
  .inl ⟨hw, fun w _ => by
    have hb' : P.built t ((#[(0, x), (1, y), (2, z), (3, u)] : Array (Nat × Operand)).map fun (i, x) => (i, a.eval x)).toList = some cs := by simpa [hx, hy, hz, hu] using hb
    unfold execOp
    simp only [ho, Sem.run_bind, run_build w t _ cs hb', Result.andThen_ok]
    rfl⟩
/-- A row of chunks, opened. -/
def CRow (W : World) (A : Option Addr) (cs : List (List Nat)) : Prop := ∀ i (h : i < cs.length), ∃ g B c, A = some ⟨g, 0, none⟩ ∧ W.cell? ⟨g, i, none⟩ = some (.slice B cs[i].length c) ∧ cs[i].length ≤ c ∧ RN .u8 W B cs[i]
theorem SRow.open {W : World} {okc : Nat → Prop} {base : Nat} {v : Value} {cs : List (List Nat)} (h : SRow W okc base 25 v cs) : ∃ A c, v = .slice A cs.length c ∧ cs.length ≤ c ∧ CRow W A cs := by
  obtain ⟨vals, h1, _, _, h4⟩ := h
  obtain ⟨A, c, e, hc, hr, hA⟩ := RV.ofOwn h1
  refine ⟨A, c, e, hc, fun i hi => ?_⟩
  obtain ⟨B, cb, e2, h5, h6, _⟩ := h4 i hi
  obtain ⟨g, eA, _⟩ := hA (by omega)
  obtain ⟨g', o', eA', _, hcell⟩ := hr.2 (by omega)
  rw [eA] at eA'
  cases eA'
  refine ⟨g, B, cb, eA, ?_, h5, h6⟩
  have := hcell i _ e2
  rw [Nat.zero_add] at this
  exact this
theorem CRow.below {W W' : World} {A : Option Addr} {cs : List (List Nat)} (h : CRow W A cs) (hb : Below W.heap.size W W') : CRow W' A cs := fun i hi => by
  obtain ⟨g, B, c, e, h1, h2, h3⟩ := h i hi
  exact ⟨g, B, c, e, (hb.cell (block_lt_of_cell h1)).trans h1, h2, h3.below hb⟩
/-- A place out of the row that a cell holds. -/
theorem PlAt.cells {W : World} {base gp : Nat} {l : List (Nat × Nat × Nat)} (h : PlAt W base gp l) : ∃ A c, W.cell? ⟨gp, 0, none⟩ = some (.slice A l.length c) ∧ l.length ≤ c ∧ RV 53 W A l.length (flatP l) := by
  obtain ⟨v, h1, h2⟩ := h
  obtain ⟨A, c, e, hc, hr, _⟩ := RV.ofOwn h2
  subst e
  exact ⟨A, c, cell_of_one h1, hc, hr⟩
theorem RV.place {t : TypeId} {W : World} {A : Option Addr} {l : List (Nat × Nat × Nat)} (h : RV t W A l.length (flatP l)) (i : Nat) (hi : i < l.length) : ∃ g o, A = some ⟨g, o, none⟩ ∧ W.rangeAt g (o + i * 3) (pcCells l[i]) := by
  obtain ⟨g, o, e, _, hc⟩ := h.2 (by omega)
  refine ⟨g, o, e, fun j u hu => ?_⟩
  rw [Nat.add_assoc]
  refine hc _ u ?_
  have : ∀ (l : List (Nat × Nat × Nat)) (i : Nat) (hi : i < l.length), ∀ j u, (pcCells l[i])[j]? = some u → (flatP l)[i * 3 + j]? = some u := by
    intro l
    induction l with
    | nil => intro i hi; simp at hi
    | cons r l ih =>
      intro i hi j u hu
      have hl : (pcCells r).length = 3 := rfl
      show (pcCells r ++ flatP l)[i * 3 + j]? = some u
      cases i with
      | zero =>
        have hj : j < 3 := by
          rcases Nat.lt_or_ge j 3 with h | h
          · exact h
          · rw [List.getElem?_eq_none (by simpa [pcCells] using h)] at hu; cases hu
        rw [Nat.zero_mul, Nat.zero_add, List.getElem?_append_left (by omega)]
        exact hu
      | succ i =>
        rw [List.getElem?_append_right (by omega), hl, show (i + 1) * 3 + j - 3 = i * 3 + j by omega]
        exact ih i (by simpa using hi) j u hu
  exact this l i hi j u hu
theorem checkV_or (mn av mx : Int) : checkV mn av mx = 0 ∨ checkV mn av mx = 2 := by
  unfold checkV
  by_cases h : cutOk mn av mx = true
  · exact .inl (if_pos h)
  · exact .inr (if_neg h)
/-- The chunks of a text that is cut. -/
theorem allOut_ok {mn av mx : Int} {tb q : List Nat} (h : checkV mn av mx = 0) (hq : ∀ x ∈ q, x < 256) : (allOut mn av mx tb q).flatten = q ∧ ∀ c ∈ allOut mn av mx tb q, 1 ≤ c.length ∧ c.length ≤ 512 ∧ ∀ x ∈ c, x < 256 := by
  have hk : cutOk mn av mx = true := by
    unfold checkV at h
    by_cases hk : cutOk mn av mx = true
    · exact hk
    · rw [if_neg hk] at h; exact absurd h (by decide)
  have hb : 1 ≤ mn.toNat ∧ mn.toNat ≤ mx.toNat ∧ mx.toNat ≤ 512 := by
    unfold cutOk at hk
    simp only [Bool.and_eq_true, decide_eq_true_eq] at hk
    omega
  unfold allOut
  rw [if_pos hk]
  have hc := chunks_are (av := av.toNat) (tb := tb) hb.1 hb.2.1 q
  refine ⟨hc.1, fun c hcm => ?_⟩
  obtain ⟨k, hk, rfl⟩ := List.getElem_of_mem hcm
  refine ⟨(hc.2 k hk).1, by have := (hc.2 k hk).2.1; omega, fun x hx => hq x ?_⟩
  rw [← hc.1]
  exact List.mem_flatten.2 ⟨_, List.getElem_mem hk, hx⟩
/-- What holds at the head of the packing loop. -/
def L1R (cs : List (List Nat)) (w4 : World) (gsh gp gk s db gs mb er rb : Nat) (sb : List (List Nat)) (rv vi : Value) (W : World) : Prop :=
  ∃ (i : Nat) (G : List Grp) (kv : Option Nat) (cur : Grp), i ≤ cs.length ∧ vi = .int .i64 (i : Nat) ∧ PackI cs i G cur ∧ (kv = none → cur = [] ∧ G = []) ∧ (∀ pb, kv = some pb → 0 < cur.length) ∧ StB w4 W gsh gp gk s db gs mb er rb sb G kv cur rv (refsOf 0 G ++ slRefs G.length 0 cur)
/-- Behind the first if: what is full is sealed. -/
def L1M (cs : List (List Nat)) (w4 : World) (gsh gp gk s db gs mb er rb : Nat) (sb : List (List Nat)) (i p : Nat) (rv : Value) (rl : List Rf) (W : World) : Prop :=
  ∃ (G : List Grp) (kv : Option Nat) (cur : Grp), PackI cs i G cur ∧ (kv = none → cur = []) ∧ (∀ pb, kv = some pb → p ≤ roomN 16 cur.length cur.flatten.length) ∧ rl = refsOf 0 G ++ slRefs G.length 0 cur ∧ StB w4 W gsh gp gk s db gs mb er rb sb G kv cur rv rl
/-- Behind the second if: there is a packer with room. -/
def L1N (cs : List (List Nat)) (w4 : World) (gsh gp gk s db gs mb er rb : Nat) (sb : List (List Nat)) (i p : Nat) (rv : Value) (rl : List Rf) (W : World) : Prop :=
  ∃ (G : List Grp) (pb : Nat) (cur : Grp), PackI cs i G cur ∧ p ≤ roomN 16 cur.length cur.flatten.length ∧ rl = refsOf 0 G ++ slRefs G.length 0 cur ∧ StB w4 W gsh gp gk s db gs mb er rb sb G (some pb) cur rv rl
/-- The first if's condition. -/
def IfB (gp : Nat) (wr : World) (p : Nat) (kv : Option Nat) (cur : Grp) (v : Value) (wx : World) : Prop :=
  ∃ b : Bool, v = .bool b ∧ Below wr.heap.size wr wx ∧ (b = true → ∃ pb, kv = some pb ∧ roomN 16 cur.length cur.flatten.length < p) ∧ (b = false → ∀ pb, kv = some pb → p ≤ roomN 16 cur.length cur.flatten.length)
end Go.Proofs.YtbcamfbbooggfaaGreat.F
end

section
/- From the packing's end to the claims: flush, crash, new maps. -/
set_option linter.unusedVariables false
set_option linter.unusedSimpArgs false
namespace Go.Proofs.YtbcamfbbooggfaaGreat.F
open Go.RowKit Go.Proofs.YtbcamfbbooggfaaGreatW.PrintWords Go.Maps

/-- All is sealed, and lies on the disk for good. -/
structure StF (W0 W : World) (gsh gp db gs mb : Nat) (sb : List (List Nat)) (life : Nat) (G : List Grp) (rv : Value) (rl : List Rf) : Prop where
  below : Below W0.heap.size W0 W
  disk : DK W db gs mb 4096 sb [] 0 false life
  bytes : ∀ j (hj : j < G.length) i, i < secsOf G[j] → readN sb [] (offOf (G.take j) + i) = secN (bytesN j G[j]) i
  sh : ∃ u, W.heap[gsh]? = some (.cells #[u] 43 (0, 0))
  pl : PlAt W W0.heap.size gp (plFrom 0 0 G)
  refs : W.ownsRow W0.heap.size 64 35 rv rl.length (flatRf rl)
  lo : W0.heap.size ≤ gsh ∧ W0.heap.size ≤ db ∧ W0.heap.size ≤ gs ∧ W0.heap.size ≤ mb
section
variable {W0 W W' : World} {gsh gp s db gs mb er rb life life' : Nat} {sb sb' : List (List Nat)} {G : List Grp} {rv : Value} {rl : List Rf}
theorem StF.next (h : StF W0 W gsh gp db gs mb sb life G rv rl) (hb : Below W.heap.size W W') : StF W0 W' gsh gp db gs mb sb life G rv rl := by
  obtain ⟨u, hu⟩ := h.sh
  exact ⟨h.below.trans (hb.mono h.below.size), h.disk.below hb, h.bytes, ⟨u, (hb.block _ (Array.getElem?_eq_some_iff.1 hu).1).trans hu⟩, h.pl.below hb, pw_own_below h.refs hb, h.lo⟩
/-- What stays where the disk turns. -/
theorem gr_ds {trip : Int} {down : Bool} {dm : List (Nat × Sec × List Nat)} {u : Value} (hd : DK W db gs mb 4096 sb dm trip down life) (hg : Gr (DS db gs mb) W W') (below : Below W0.heap.size W0 W) (sh : W.heap[gsh]? = some (.cells #[u] 43 (0, 0)))
    (pl : PlAt W W0.heap.size gp (plFrom 0 0 G)) (refs : W.ownsRow W0.heap.size 64 35 rv rl.length (flatRf rl)) (lo : W0.heap.size ≤ db ∧ W0.heap.size ≤ gs ∧ W0.heap.size ≤ mb) :
    Below W0.heap.size W0 W' ∧ W'.heap[gsh]? = some (.cells #[u] 43 (0, 0)) ∧ PlAt W' W0.heap.size gp (plFrom 0 0 G) ∧ W'.ownsRow W0.heap.size 64 35 rv rl.length (flatRf rl) := by
  refine ⟨below.trans (hg.below below.size (fun k hk => by rcases hk with e | e | e <;> omega)), (hg.block _ (Array.getElem?_eq_some_iff.1 sh).1 (hd.apart sh (by decide) (by decide))).trans sh, pl.off hg ?_ (fun k hk cs x e => hd.apart e (by decide) (by decide) hk), own_move refs (fun k hk => ?_)⟩
  · obtain ⟨_, _, q⟩ := pl.typed
    exact hd.apart q (by decide) (by decide)
  · obtain ⟨_, cs, x, hh⟩ := own_typed refs hk
    exact hg.block k (Array.getElem?_eq_some_iff.1 hh).1 (hd.apart hh (by decide) (by decide))
end
theorem FlushG_c {W0 : World} {gsh gp s db gs mb er rb : Nat} {sb : List (List Nat)} {G : List Grp} {rv : Value} {rl : List Rf} {cs : List (List Nat)} (W : World) (h : StA W0 W gsh gp s db gs mb er rb sb G) (hf : Fin0 cs G) (refs : W.ownsRow W0.heap.size 64 35 rv rl.length (flatRf rl)) :
    Calls Tryz.prog 16 #[.pointer (some ⟨db, 0, none⟩)] W fun e w' => e = .returned (.int .i64 0) ∧ ∃ sb', StF W0 w' gsh gp db gs mb sb' 0 G rv rl := by
  obtain ⟨dm, m, h1, h2, h3⟩ := h.disk
  have hl := h.lo
  refine (Flush_c W h1 (by decide)).mono ?_
  rintro e w' ⟨rfl, ⟨sb', d1, d2⟩, hg⟩
  obtain ⟨g1, g2, g3, g4⟩ := gr_ds h1 hg h.below h.sh h.pl refs (by omega)
  refine ⟨rfl, sb', g1, d1, fun j hj i hi => ?_, ⟨_, g2⟩, g3, g4, by omega⟩
  have hs := hf.secs j hj
  rw [← h3.bytes j hj i hi, ← d2 _ (by omega)]
  rfl
theorem CrashG_c {W0 : World} {gsh gp db gs mb : Nat} {sb : List (List Nat)} {G : List Grp} {rv : Value} {rl : List Rf} (x0 : Option Addr) (xn xc : Nat) (x1 x2 : Int) (W : World) (h : StF W0 W gsh gp db gs mb sb 0 G rv rl) :
    Calls Tryz.prog 17 #[.pointer (some ⟨db, 0, none⟩), .agg #[.slice x0 xn xc, .int .i64 x1, .int .i64 x2]] W fun e w' => (∃ v, e = .returned v) ∧ StF W0 w' gsh gp db gs mb sb 1 G rv rl := by
  have hl := h.lo
  obtain ⟨u, hu⟩ := h.sh
  refine (Crash_c x0 xn xc x1 x2 W h.disk (by decide)).mono ?_
  rintro e w' ⟨hv, d1, hg⟩
  obtain ⟨g1, g2, g3, g4⟩ := gr_ds h.disk hg h.below hu h.pl h.refs (by omega)
  exact ⟨hv, g1, d1, h.bytes, ⟨u, g2⟩, g3, g4, hl⟩
/-- A new shelf is put into its variable. -/
theorem StF.claims {W0 W : World} {gsh gp s db gs mb er rb : Nat} {sb : List (List Nat)} {G : List Grp} {rv : Value} {rl : List Rf} (h : StF W0 W gsh gp db gs mb sb 1 G rv rl) (he : EM W W0.heap.size er 0 4096 [(offOf (G.take 0), 4096 - offOf (G.take 0))]) (hs : SH W s db er rb []) (ne : rb ≠ mb) (lo : W0.heap.size ≤ er ∧ W0.heap.size ≤ rb) :
    StC W0 (W.setCell ⟨gsh, 0, none⟩ (.pointer (some ⟨s, 0, none⟩))) gsh gp s db gs mb er rb sb G 0 rv rl := by
  obtain ⟨u, hu⟩ := h.sh
  have hg : Gr (fun x => x = gsh) W (W.setCell ⟨gsh, 0, none⟩ (.pointer (some ⟨s, 0, none⟩))) := Gr.setCell (S := fun x => x = gsh) _ _ _ rfl
  refine ⟨h.below.trans (hg.below h.below.size (fun k hk => by subst hk; exact h.lo.1)), h.disk.off hg (fun k hk => by subst hk; exact h.disk.apart hu (by decide) (by decide)) (fun k hk cs x e => by subst hk; exact cells_ne hu e (by decide) rfl),
    ⟨[], hs.off hg (fun e => ?_) (fun e => ?_), Claimed.nil _ _⟩, he.off hg (fun e => ?_) (fun k hk cs e => by subst hk; exact cells_ne hu e (by decide) rfl), heap_setCell_same _ _ 0 _ _ _ hu, h.pl.off hg (fun e => ?_) (fun k hk cs x e => by subst hk; exact cells_ne hu e (by decide) rfl), own_move h.refs (fun k hk => ?_), ne, lo⟩
  · obtain ⟨⟨_, _, q⟩, _⟩ := hs.typed
    exact cells_ne q hu (by decide) e
  · obtain ⟨_, ⟨_, _, q⟩⟩ := hs.typed
    exact map_ne hu q e.symm
  · obtain ⟨_, _, q⟩ := he.typed
    exact cells_ne q hu (by decide) e
  · obtain ⟨_, _, q⟩ := h.pl.typed
    exact cells_ne q hu (by decide) e
  · obtain ⟨_, cs, x, hh⟩ := own_typed h.refs hk
    exact hg.block k (Array.getElem?_eq_some_iff.1 hh).1 (fun e => cells_ne hh hu (by decide) e)
/-- Behind the packing loop. -/
def L1E (cs : List (List Nat)) (w4 : World) (gsh gp db gs mb : Nat) (rv : Value) (rl : List Rf) (W : World) : Prop :=
  ∃ (G : List Grp) (sb : List (List Nat)), Fin0 cs G ∧ rl = refsOf 0 G ∧ StF w4 W gsh gp db gs mb sb 0 G rv rl
/-- What holds at the head of the loop that claims. -/
def L2R (w4 : World) (gsh gp s db gs mb er rb : Nat) (sb : List (List Nat)) (G : List Grp) (rv : Value) (rl : List Rf) (vi : Value) (W : World) : Prop :=
  ∃ j : Nat, j ≤ G.length ∧ vi = .int .i64 (j : Nat) ∧ StC w4 W gsh gp s db gs mb er rb sb G j rv rl
/-- What holds at the head of the loop that reads. -/
def L3R (cs : List (List Nat)) (wC : World) (xs : List (Nat × Nat × Nat)) (vg vk : Value) (W : World) : Prop :=
  ∃ k : Nat, k ≤ xs.length ∧ vk = .int .i64 (k : Nat) ∧ OwnN .u8 5 W wC.heap.size vg ((xs.take k).map (pieceB cs)).flatten ∧ Below wC.heap.size wC W
theorem pieces_le (cs : List (List Nat)) (xs : List (Nat × Nat × Nat)) (k : Nat) : ((xs.take k).map (pieceB cs)).flatten.length ≤ (xs.map (pieceB cs)).flatten.length := by
  rw [List.map_take]
  exact take_flat_le _ _
theorem pieces_succ (cs : List (List Nat)) (xs : List (Nat × Nat × Nat)) (k : Nat) (h : k < xs.length) : ((xs.take (k + 1)).map (pieceB cs)).flatten = ((xs.take k).map (pieceB cs)).flatten ++ pieceB cs xs[k] := by
  rw [List.take_succ_eq_append_getElem h, List.map_append, List.flatten_append]
  simp
/-- A reference's cells that tell where its chunk lies. -/
theorem StC.ref {W0 W : World} {gsh gp s db gs mb er rb j : Nat} {sb : List (List Nat)} {G : List Grp} {A : Option Addr} {c : Nat} {rl : List Rf} (h : StC W0 W gsh gp s db gs mb er rb sb G j (.slice A rl.length c) rl) (hs : ∀ r ∈ rl, RfOk r) (i : Nat) (hi : i < rl.length) :
    ∃ g o, A = some ⟨g, o, none⟩ ∧ W.cell? ⟨g, o + i * 35 + 33, none⟩ = some (.int .i64 (rl[i].2.2.1 : Nat)) ∧ W.cell? ⟨g, o + i * 35 + 34, none⟩ = some (.int .i64 (rl[i].2.2.2 : Nat)) := by
  obtain ⟨A', c', e, _, hr, _⟩ := RV.ofOwn h.refs
  cases e
  obtain ⟨g, o, e, hrg⟩ := RV.ref hr (fun r hr => (hs r hr).1) i hi
  have hl := (hs rl[i] (List.getElem_mem hi)).1
  refine ⟨g, o, e, hrg 33 _ ?_, hrg 34 _ ?_⟩
  · rw [← List.getElem?_toArray]
    have := rfCells_hi hl 1
    simpa using this
  · rw [← List.getElem?_toArray]
    have := rfCells_hi hl 2
    simpa using this
theorem yieldsIf_conv {P : Program} {ops : Array Oper} {S : World → Prop} {op : Oper} {a : Act} (hw : Region.wanted op (yielded ops a.tmps) = true) (src dst : TypeId) (x : Operand) (ho : op.op = .convert src dst x) (v u : Value) (hx : a.eval x = v)
    (hrun : ∀ w, S w → (convert src dst v).run P w = .ok u w) : YieldsIf P ops S op u a :=
  .inl ⟨hw, fun w hw' => by
    unfold execOp
    simp only [ho, hx, Sem.run_bind, hrun w hw', Result.andThen_ok]
    rfl⟩
end Go.Proofs.YtbcamfbbooggfaaGreat.F
end
