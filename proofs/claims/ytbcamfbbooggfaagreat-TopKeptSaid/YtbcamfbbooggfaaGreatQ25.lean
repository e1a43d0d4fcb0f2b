/- Part 25 of the proof: H4, H5. -/
import Derived.Test.YtbcamfbbooggfaaGreatQ24

section
/- A shelf's parts lie apart. -/
set_option linter.unusedVariables false
set_option linter.unusedSimpArgs false
namespace Go.Proofs.YtbcamfbbooggfaaGreat.F
open Go.RowKit Go.Proofs.YtbcamfbbooggfaaGreatW.PrintWords Go.Maps

theorem rep_lt (n : Nat) : ∀ x ∈ List.replicate n 0, x < 256 := fun x hx => by rw [List.eq_of_mem_replicate hx]; decide
theorem head22_lt (id : Nat) (L : List (List Nat)) : ∀ x ∈ head22 id L, x < 256 := app_lt (head18_lt id L) (bigN_lt _ _)
theorem bodyN_lt (id : Nat) (L : List (List Nat)) (h : ∀ x ∈ L.flatten, x < 256) : ∀ x ∈ bodyN id L, x < 256 := app_lt (app_lt (app_lt (head22_lt id L) (rep_lt _)) h) (tableN_lt L)
theorem bytesN_lt (id : Nat) (L : List (List Nat)) (h : ∀ x ∈ L.flatten, x < 256) : ∀ x ∈ bytesN id L, x < 256 := app_lt (bodyN_lt id L h) (rep_lt _)
theorem cells_ne {W : World} {a b : Nat} {cs cs' : Array Value} {t t' : TypeId} {x x' : Nat × Nat} (h : W.heap[a]? = some (.cells cs t x)) (h' : W.heap[b]? = some (.cells cs' t' x')) (ht : t ≠ t') : a ≠ b := by
  rintro rfl
  rw [h] at h'
  injection h' with h'
  injection h' with _ h' _
  exact ht h'
theorem map_ne {W : World} {a b : Nat} {cs : Array Value} {t : TypeId} {x : Nat × Nat} {es : Array MapEntry} {c : Nat} (h : W.heap[a]? = some (.cells cs t x)) (h' : W.heap[b]? = some (.map es c)) : a ≠ b := by
  rintro rfl
  rw [h] at h'
  cases h'
/-- Where a disk lies. -/
theorem DK.typed {W : World} {b gs mb n : Nat} {sb : List (List Nat)} {dm : List (Nat × Sec × List Nat)} {trip : Int} {down : Bool} {life : Nat} (h : DK W b gs mb n sb dm trip down life) :
    (∃ cs x, W.heap[b]? = some (.cells cs 85 x)) ∧ (∃ cs x, W.heap[gs]? = some (.cells cs 25 x)) ∧ ∃ es c, W.heap[mb]? = some (.map es c) := by
  obtain ⟨⟨cs, sv, row, q1, _, _, q4, _⟩, _, ⟨D, ⟨es, clock, q7, _⟩, _⟩, _⟩ := h
  exact ⟨⟨_, _, q1⟩, ⟨_, _, q4⟩, ⟨_, _, q7⟩⟩
theorem DK.apart {W : World} {b gs mb n : Nat} {sb : List (List Nat)} {dm : List (Nat × Sec × List Nat)} {trip : Int} {down : Bool} {life : Nat} (h : DK W b gs mb n sb dm trip down life) {k : Nat} {cs : Array Value} {t : TypeId} {x : Nat × Nat} (hk : W.heap[k]? = some (.cells cs t x)) (h1 : t ≠ 85) (h2 : t ≠ 25) : ¬ DS b gs mb k := by
  obtain ⟨⟨_, _, q1⟩, ⟨_, _, q2⟩, ⟨_, _, q3⟩⟩ := h.typed
  rintro (e | e | e)
  · exact cells_ne hk q1 h1 e
  · exact cells_ne hk q2 h2 e
  · exact map_ne hk q3 e
theorem DK.apartM {W : World} {b gs mb n : Nat} {sb : List (List Nat)} {dm : List (Nat × Sec × List Nat)} {trip : Int} {down : Bool} {life : Nat} (h : DK W b gs mb n sb dm trip down life) {k : Nat} {es : Array MapEntry} {c : Nat} (hk : W.heap[k]? = some (.map es c)) (h1 : k ≠ mb) : ¬ DS b gs mb k := by
  obtain ⟨⟨_, _, q1⟩, ⟨_, _, q2⟩, _⟩ := h.typed
  rintro (e | e | e)
  · exact map_ne q1 hk e.symm
  · exact map_ne q2 hk e.symm
  · exact h1 e
/-- A disk stays where just blocks of other kinds turn. -/
theorem DK.off {W W' : World} {b gs mb n : Nat} {sb : List (List Nat)} {dm : List (Nat × Sec × List Nat)} {trip : Int} {down : Bool} {life : Nat} (h : DK W b gs mb n sb dm trip down life) {S : Nat → Prop} (hg : Gr S W W') (h1 : ∀ k, S k → ¬ DS b gs mb k) (h2 : ∀ k, S k → ∀ cs x, W.heap[k]? ≠ some (Obj.cells cs 5 x)) : DK W' b gs mb n sb dm trip down life :=
  h.move (fun g hl hh => hg.block g hl (fun hS => by
    rcases hh with e | e | e | ⟨cs, x, e⟩
    · exact h1 g hS (.inl e)
    · exact h1 g hS (.inr (.inl e))
    · exact h1 g hS (.inr (.inr e))
    · exact h2 g hS cs x e))
theorem EM.typed {W : World} {base b f t : Nat} {l : List Rn} (h : EM W base b f t l) : ∃ cs x, W.heap[b]? = some (.cells cs 88 x) := by
  obtain ⟨v, h1, _⟩ := h
  exact ⟨_, _, h1⟩
theorem EM.off {W W' : World} {base b f t : Nat} {l : List Rn} (h : EM W base b f t l) {S : Nat → Prop} (hg : Gr S W W') (h1 : ¬ S b) (h2 : ∀ k, S k → ∀ cs, W.heap[k]? ≠ some (Obj.cells cs 51 (0, 0))) : EM W' base b f t l :=
  h.move (fun k hl hh => hg.block k hl (fun hS => by
    rcases hh with e | ⟨_, cs, e⟩
    · exact h1 (e ▸ hS)
    · exact h2 k hS cs e))
theorem EM.ds {W W' : World} {base er f t : Nat} {l : List Rn} {b gs mb n : Nat} {sb : List (List Nat)} {dm : List (Nat × Sec × List Nat)} {trip : Int} {down : Bool} {life : Nat} (h : EM W base er f t l) (hd : DK W b gs mb n sb dm trip down life) (hg : Gr (DS b gs mb) W W') : EM W' base er f t l := by
  obtain ⟨cs, x, q⟩ := h.typed
  refine h.off hg (hd.apart q (by decide) (by decide)) (fun k hS cs' e => hd.apart e (by decide) (by decide) hS)
theorem SH.typed {W : World} {s db er rb : Nat} {m : List (Nat × Sec × List Nat)} (h : SH W s db er rb m) : (∃ cs x, W.heap[s]? = some (.cells cs 93 x)) ∧ ∃ es c, W.heap[rb]? = some (.map es c) := by
  obtain ⟨b, ⟨D, ⟨es, clock, q1, _⟩, _⟩, _⟩ := h
  exact ⟨⟨_, _, b⟩, ⟨_, _, q1⟩⟩
theorem SH.off {W W' : World} {s db er rb : Nat} {m : List (Nat × Sec × List Nat)} (h : SH W s db er rb m) {S : Nat → Prop} (hg : Gr S W W') (h1 : ¬ S s) (h2 : ¬ S rb) : SH W' s db er rb m :=
  h.move (hg.block _ h.lt.1 h1) (hg.block _ h.lt.2.1 h2)
theorem SH.ds {W W' : World} {s er rb : Nat} {m : List (Nat × Sec × List Nat)} {b gs mb n : Nat} {sb : List (List Nat)} {dm : List (Nat × Sec × List Nat)} {trip : Int} {down : Bool} {life : Nat} (h : SH W s b er rb m) (hd : DK W b gs mb n sb dm trip down life) (hne : rb ≠ mb) (hg : Gr (DS b gs mb) W W') : SH W' s b er rb m := by
  obtain ⟨⟨cs, x, q1⟩, ⟨es, c, q2⟩⟩ := h.typed
  exact h.off hg (hd.apart q1 (by decide) (by decide)) (hd.apartM q2 hne)
theorem DK.er {W W' : World} {base er f t : Nat} {l : List Rn} {b gs mb n : Nat} {sb : List (List Nat)} {dm : List (Nat × Sec × List Nat)} {trip : Int} {down : Bool} {life : Nat} (hd : DK W b gs mb n sb dm trip down life) (h : EM W base er f t l) (hg : Gr (fun k => k = er) W W') : DK W' b gs mb n sb dm trip down life := by
  obtain ⟨cs, x, q⟩ := h.typed
  refine hd.off hg (fun k hk => by subst hk; exact hd.apart q (by decide) (by decide)) (fun k hk cs' x' e => by subst hk; exact cells_ne q e (by decide) rfl)
theorem SH.er {W W' : World} {base er f t : Nat} {l : List Rn} {s db er' rb : Nat} {m : List (Nat × Sec × List Nat)} (h : SH W s db er' rb m) (he : EM W base er f t l) (hg : Gr (fun k => k = er) W W') : SH W' s db er' rb m := by
  obtain ⟨⟨cs, x, q1⟩, ⟨es, c, q2⟩⟩ := h.typed
  obtain ⟨cs', x', q⟩ := he.typed
  exact h.off hg (cells_ne q1 q (by decide)) (fun e => map_ne q q2 e.symm)
theorem DK.rb {W W' : World} {s db er rb : Nat} {m : List (Nat × Sec × List Nat)} {b gs mb n : Nat} {sb : List (List Nat)} {dm : List (Nat × Sec × List Nat)} {trip : Int} {down : Bool} {life : Nat} (hd : DK W b gs mb n sb dm trip down life) (h : SH W s db er rb m) (hne : rb ≠ mb) (hg : Gr (fun k => k = rb) W W') : DK W' b gs mb n sb dm trip down life := by
  obtain ⟨_, ⟨es, c, q2⟩⟩ := h.typed
  exact hd.off hg (fun k hk => by subst hk; exact hd.apartM q2 hne) (fun k hk cs' x' e => by subst hk; exact map_ne e q2 rfl)
theorem EM.rb {W W' : World} {base er f t : Nat} {l : List Rn} {s db er' rb : Nat} {m : List (Nat × Sec × List Nat)} (he : EM W base er f t l) (h : SH W s db er' rb m) (hg : Gr (fun k => k = rb) W W') : EM W' base er f t l := by
  obtain ⟨_, ⟨es, c, q2⟩⟩ := h.typed
  obtain ⟨cs', x', q⟩ := he.typed
  exact he.off hg (map_ne q q2) (fun k hk cs e => by subst hk; exact map_ne e q2 rfl)
/-- A container is known. -/
theorem SH.putR {W W' : World} {s db er rb : Nat} {m : List (Nat × Sec × List Nat)} (h : SH W s db er rb m) {D : DataW Unit} {k nn : Nat} {r : Sec} (hg : W.grownBy W' (some rb)) (hown : W'.ownsMap Tryz.prog 3 rdRun rb nn D) (hD : Dirt D ((k, r, []) :: without m k)) (hk : k < 4096) : SH W' s db er rb ((k, r, []) :: without m k) := by
  have hl := h.lt
  obtain ⟨b, _, hs⟩ := h
  refine ⟨(hg.block s hl.1 (fun e => hl.2.2 (Option.some.inj e))).trans b, ⟨D, owns_tight hown, hD⟩, fun x hx => ?_⟩
  rcases List.mem_cons.1 hx with rfl | hx
  · exact hk
  · exact hs x (List.mem_filter.1 hx).1
theorem gr_grown {W W' : World} {b : Nat} (h : W.grownBy W' (some b)) : Gr (fun k => k = b) W W' := ⟨h.os, h.tape, h.output, h.size, fun k hk hn => h.block k hk (fun e => hn (Option.some.inj e))⟩
end Go.Proofs.YtbcamfbbooggfaaGreat.F
end

section
/- A shelf seals a container. -/
set_option linter.unusedVariables false
set_option linter.unusedSimpArgs false
namespace Go.Proofs.YtbcamfbbooggfaaGreat.F
open Go.RowKit Go.Proofs.YtbcamfbbooggfaaGreatW.PrintWords Go.Maps
attribute [local go_sem ↓] Go.wp_at_zero Go.wp_at_succ

theorem info_place : (Tryz.prog.info? 53).map (·.size) = some 3 := by kernel_rfl
theorem place_set3 (W : World) (g : Nat) (a b c x y z : Value) (hg : W.heap[g]? = some (.cells #[x, y, z] 53 (0, 0))) :
    (((W.setCell ⟨g, 0, none⟩ a).setCell ⟨g, 1, none⟩ b).setCell ⟨g, 2, none⟩ c).heap[g]? = some (.cells #[a, b, c] 53 (0, 0)) :=
  heap_setCell_same _ g 2 _ _ c (heap_setCell_same _ g 1 _ _ b (heap_setCell_same _ g 0 _ _ a hg))
theorem info_run_size : (Tryz.prog.info? 51).map (·.size) = some 2 := by kernel_rfl
set_option maxRecDepth 20000 in
set_option maxHeartbeats 4000000 in
theorem Seal_c {db gs mb er rb s pb id wide n t : Nat} {sb : List (List Nat)} {dm : List (Nat × Sec × List Nat)} {life base at0 N : Nat} {l l' : List Rn} {m : List (Nat × Sec × List Nat)} {L : List (List Nat)} (w : World)
    (hd : DK w db gs mb n sb dm 0 false life) (hs : SH w s db er rb m) (hne : rb ≠ mb) (he : EM w base er 0 t l) (hbase : base ≤ w.heap.size) (hp : PK sumN w pb id wide L) (hid : id < 4096) (hc : Chunks L) (h0 : 0 < L.length) (hk : lk m id = none)
    (hN : N = (128 + L.flatten.length + 34 * L.length + 127) / 128) (ht : takeF l (N : Int) = (((at0 : Nat) : Int), 0, l')) (hll : l.length ≤ 10000) (hlr : ∀ r ∈ l, r.1 + r.2 ≤ 4096) (hat : at0 + N ≤ n) :
    Calls Tryz.prog 11 #[.pointer (some ⟨s, 0, none⟩), .pointer (some ⟨pb, 0, none⟩)] w fun e w' => e = .returned (.tuple #[.agg #[.int .i64 (id : Nat), .int .i64 (at0 : Nat), .int .i64 (N : Nat)], .int .i64 0]) ∧
      (∃ dm', DK w' db gs mb n sb dm' 0 false life ∧ ∀ i, readN sb dm' i = if at0 ≤ i ∧ i < at0 + N then secN (bytesN id L) (i - at0) else readN sb dm i) ∧
      SH w' s db er rb ((id, (at0, N), []) :: without m id) ∧ EM w' base er 0 t l' ∧ Gr (fun k => DS db gs mb k ∨ k = er ∨ k = rb) w w' := by
  obtain ⟨W1, hW1⟩ : ∃ W1, w.alloc (.cells #[.int .i64 0, .int .i64 0, .int .i64 0] 53) = W1 := ⟨_, rfl⟩
  have hb1 : Below w.heap.size w W1 := by rw [← hW1]; exact (Below.refl _ _).alloc (Nat.le_refl _) _
  have hg1 : W1.heap[w.heap.size]? = some (.cells #[.int .i64 0, .int .i64 0, .int .i64 0] 53 (0, 0)) := by rw [← hW1]; exact heap_alloc_new _ _
  have hz1 := hb1.size
  have hgl := (Array.getElem?_eq_some_iff.1 hg1).1
  have hpp : parseP (bytesN id L) = (0, id, N, slotsFrom sumN 128 L) := by
    have := parse_bytes id L [] hid hc
    rw [List.append_nil] at this
    rw [this, hN]
  have hlen : (bytesN id L).length = N * 128 := by rw [← bytes_sectors id L, hN]
  have hlt := bytesN_lt id L hc.flat.2
  have hd1 := hd.below hb1
  have hs1 := hs.below hb1
  have he1 := he.below hb1
  have hp1 := hp.below sumN hb1
  obtain ⟨k0, k1, k2⟩ := hs1.cells
  have HDN := Lib.hid (Down_c W1 hd1)
  have HPL := Lib.hid (PLen_c sumN pb id wide L W1 hp1)
  have HBY := Lib.hid (Bytes_c pb id wide L W1 hp1 hid hc)
  have dl : decide ((L.length : Int) = 0) = false := decide_eq_false (by omega)
  have HW1 := Lib.hid hW1
  have HB1 := Lib.hid hb1
  have HG1 := Lib.hid hg1
  have HD1 := Lib.hid hd1
  have HS1 := Lib.hid hs1
  have HE1 := Lib.hid he1
  have HPP := Lib.hid hpp
  have HLEN := Lib.hid hlen
  have HLT := Lib.hid hlt
  have HT := Lib.hid ht
  have HLL := Lib.hid hll
  have HLR := Lib.hid hlr
  have HK := Lib.hid hk
  clear hd hs he hp hW1 hb1 hg1 hd1 hs1 he1 hp1 hpp hlen hlt ht hll hlr hk hc hN
  obtain ⟨g4, hg4⟩ : ∃ g4, w.heap.size = g4 := ⟨_, rfl⟩
  have HG4 := Lib.hid hg4
  rw [hg4] at hgl hz1 hbase
  clear hg4
  go_enter Tryz.func11, Tryz.ntmps11
  go_wp2_with (first | (rw [HW1.out]) | (rw [HG4.out]))
  refine HDN.out.mono ?_
  rintro e w2 ⟨rfl, hw2⟩
  subst w2
  go_wp2_with fail
  refine HPL.out.mono ?_
  rintro e w2 ⟨rfl, hw2⟩
  subst w2
  go_wp2_with fail
  refine HBY.out.mono ?_
  rintro e w2 ⟨v2, rfl, ho2, hb2⟩
  obtain ⟨A2, c2, e2, hc2, hr2, hp2⟩ := RV.ofOwnN ho2
  subst e2
  have HPA := Lib.hid (Parse_c A2 c2 (bytesN id L) w2 hr2.rn hc2 HLT.out)
  rw [HPP.out] at HPA
  have HB2 := Lib.hid hb2
  have HR2 := Lib.hid hr2
  have HC2 := Lib.hid hc2
  have hz2 := hb2.size
  clear ho2 hr2 hp2 hb2 hc2 HBY HPL HDN
  go_wp2_with fail
  refine HPA.out.mono ?_
  rintro e w3 ⟨v3, rfl, ⟨A3, c3, e3, hr3⟩, hb3⟩
  have e3 : v3 = .agg #[.int .i64 (id : Nat), .int .i64 (N : Nat), .slice A3 (slotsFrom sumN 128 L).length c3] := e3
  subst e3
  obtain ⟨W4, hW4⟩ : ∃ W4, w3.alloc (.cells #[.int .i64 (id : Nat), .int .i64 (N : Nat), .slice A3 (slotsFrom sumN 128 L).length c3] 107) = W4 := ⟨_, rfl⟩
  have hb34 : Below w3.heap.size w3 W4 := by rw [← hW4]; exact (Below.refl _ _).alloc (Nat.le_refl _) _
  have hg7 : W4.heap[w3.heap.size]? = some (.cells #[.int .i64 (id : Nat), .int .i64 (N : Nat), .slice A3 (slotsFrom sumN 128 L).length c3] 107 (0, 0)) := by rw [← hW4]; exact heap_alloc_new _ _
  have hz3 := hb3.size
  have hz34 := hb34.size
  have hb14 : Below W1.heap.size W1 W4 := (HB2.out.trans (hb3.mono hz2)).trans (hb34.mono (Nat.le_trans hz2 hz3))
  have hs4 := HS1.out.below hb14
  have HKN := Lib.hid (known_c id W4 hs4 (by omega))
  rw [HK.out] at HKN
  obtain ⟨g7, hg7e⟩ : ∃ g7, w3.heap.size = g7 := ⟨_, rfl⟩
  have HG7E := Lib.hid hg7e
  have HW4 := Lib.hid hW4
  have HB14 := Lib.hid hb14
  have HG7 := Lib.hid hg7
  have HR4 := Lib.hid ((HR2.out.below (hb3.trans (hb34.mono hz3))))
  have hz14 := hb14.size
  have hz7 := (Array.getElem?_eq_some_iff.1 hg7).1
  rw [hg7e] at hz7 hz34
  have k70 : W4.cell? ⟨w3.heap.size, 0, none⟩ = some (.int .i64 (id : Nat)) := by rw [cell_of_row _ _ _ _ _ _ hg7]; rfl
  clear hg7e hW4 hb34 hg7 hb14 hs4 hr3 hb3 HB2 HR2 HPA
  go_wp2_with (rw [HW4.out])
  refine HKN.out.mono ?_
  rintro e w5 ⟨rfl, hb5⟩
  simp only [Option.isSome_none]
  have hz5 := hb5.size
  have hb15 : Below W1.heap.size W1 w5.drew := HB14.out.trans ((hb5.trans ((Below.refl _ w5).drew.mono hz5)).mono hz14)
  have hs5 := HS1.out.below hb15
  have he5 := HE1.out.below hb15
  have hd5 := HD1.out.below hb15
  have hg5 : w5.drew.heap[w3.heap.size]? = _ := ((hb5.trans ((Below.refl _ w5).drew.mono hz5)).block w3.heap.size (by have := HG7E.out; omega)).trans HG7.out
  have hr5 := HR4.out.below (hb5.trans ((Below.refl _ w5).drew.mono hz5))
  have hp5 : w5.drew.heap[w.heap.size]? = _ := (hb15.block w.heap.size (by have := HG4.out; omega)).trans HG1.out
  have HTK := Lib.hid (Take_c base er 0 t l (N : Int) w5.drew he5 (by have := hb15.size; omega) HLR.out HLL.out)
  rw [HT.out] at HTK
  obtain ⟨k50, k51, k52⟩ := hs5.cells
  have k71 : w5.drew.cell? ⟨w3.heap.size, 1, none⟩ = some (.int .i64 (N : Nat)) := by rw [cell_of_row _ _ _ _ _ _ hg5]; rfl
  have HS5 := Lib.hid hs5
  have HE5 := Lib.hid he5
  have HD5 := Lib.hid hd5
  have HG5 := Lib.hid hg5
  have HR5 := Lib.hid hr5
  have HP5 := Lib.hid hp5
  have HB15 := Lib.hid hb15
  clear hb15 hs5 he5 hd5 hg5 hr5 hp5 hb5 HKN HB14 HS1 HE1 HD1 HG7 HR4 HG1
  go_wp2_with fail
  refine wp_region_late [4, 6] (fun w' => w'.cell? ⟨s, 1, none⟩ = some (.pointer (some ⟨er, 0, none⟩)) ∧ w'.cell? ⟨w3.heap.size, 1, none⟩ = some (.int .i64 (N : Nat))) (by kernel_rfl) ⟨k51, k71⟩ (fun hT => ?_)
  refine WL.take (i := 0) (v := ?_) rfl (by kernel_rfl) (by kernel_rfl) (by kernel_rfl) (by kernel_rfl) (fun _ _ _ h => h) (Or.inl ⟨by rfl, ?_⟩) (by assumption) ?_
  rotate_left 1
  · (intro w' hSw; (try (replace hSw := hSw (by decide); dsimp only at hSw)); go_split_ands; go_simp; try with_reducible rfl)
  simp only [Act.put, List.getElem_toArray, List.getElem_cons_zero, List.getElem_cons_succ, List.setIfInBounds_toArray, List.set_cons_zero, List.set_cons_succ]
  refine WL.take (i := 1) (v := ?_) rfl (by kernel_rfl) (by kernel_rfl) (by kernel_rfl) (by kernel_rfl) (fun _ _ _ h => h) (Or.inl ⟨by rfl, ?_⟩) (by assumption) ?_
  rotate_left 1
  · (intro w' hSw; (try (replace hSw := hSw (by decide); dsimp only at hSw)); go_split_ands; go_simp; try with_reducible rfl)
  simp only [Act.put, List.getElem_toArray, List.getElem_cons_zero, List.getElem_cons_succ, List.setIfInBounds_toArray, List.set_cons_zero, List.set_cons_succ]
  refine WL.take (i := 2) (v := ?_) rfl (by kernel_rfl) (by kernel_rfl) (by kernel_rfl) (by kernel_rfl) (fun _ _ _ h => h) (Or.inl ⟨by rfl, ?_⟩) (by assumption) ?_
  rotate_left 1
  · (intro w' hSw; (try (replace hSw := hSw (by decide); dsimp only at hSw)); go_split_ands; go_simp; try with_reducible rfl)
  simp only [Act.put, List.getElem_toArray, List.getElem_cons_zero, List.getElem_cons_succ, List.setIfInBounds_toArray, List.set_cons_zero, List.set_cons_succ]
  refine WL.take (i := 3) (v := ?_) rfl (by kernel_rfl) (by kernel_rfl) (by kernel_rfl) (by kernel_rfl) (fun _ _ _ h => h) (Or.inl ⟨by rfl, ?_⟩) (by assumption) ?_
  rotate_left 1
  · (intro w' hSw; (try (replace hSw := hSw (by decide); dsimp only at hSw)); go_split_ands; go_simp; try with_reducible rfl)
  simp only [Act.put, List.getElem_toArray, List.getElem_cons_zero, List.getElem_cons_succ, List.setIfInBounds_toArray, List.set_cons_zero, List.set_cons_succ]
  refine WL.take (i := 4) (v := ?_) rfl (by kernel_rfl) (by kernel_rfl) (by kernel_rfl) (by kernel_rfl) (fun _ _ _ h => h) (Or.inl ⟨by rfl, ?_⟩) (by assumption) ?_
  rotate_left 1
  · (intro w' hSw; (try (replace hSw := hSw (by decide); dsimp only at hSw)); go_split_ands; go_simp; try with_reducible rfl)
  simp only [Act.put, List.getElem_toArray, List.getElem_cons_zero, List.getElem_cons_succ, List.setIfInBounds_toArray, List.set_cons_zero, List.set_cons_succ]
  refine WL.take (i := 5) (v := ?_) rfl (by kernel_rfl) (by kernel_rfl) (by kernel_rfl) (by kernel_rfl) (fun _ _ _ h => h) (Or.inl ⟨by rfl, ?_⟩) (by assumption) ?_
  rotate_left 1
  · (intro w' hSw; (try (replace hSw := hSw (by decide); dsimp only at hSw)); go_split_ands; go_simp; try with_reducible rfl)
  simp only [Act.put, List.getElem_toArray, List.getElem_cons_zero, List.getElem_cons_succ, List.setIfInBounds_toArray, List.set_cons_zero, List.set_cons_succ]
  refine WL.take (i := 6) (v := ?_) rfl (by kernel_rfl) (by kernel_rfl) (by kernel_rfl) (by kernel_rfl) (fun _ _ _ h => h) (Or.inl ⟨by rfl, ?_⟩) (by assumption) ?_
  rotate_left 1
  · (intro w' hSw; (try (replace hSw := hSw (by decide); dsimp only at hSw)); go_split_ands; go_simp; try with_reducible rfl)
  simp only [Act.put, List.getElem_toArray, List.getElem_cons_zero, List.getElem_cons_succ, List.setIfInBounds_toArray, List.set_cons_zero, List.set_cons_succ]
  refine WL.late (i := 7) (by kernel_rfl) rfl (by kernel_rfl) (fun K hK => ?_)
  go_simp
  go_at_call 32
  refine HTK.out.mono ?_
  rintro e w6 ⟨rfl, he6, hg6⟩
  obtain ⟨ecs, ex, ety⟩ := HE5.out.typed
  have hs6 := HS5.out.er HE5.out hg6
  have hd6 := HD5.out.er HE5.out hg6
  have hz6 := hg6.size
  have hg76 : w6.heap[w3.heap.size]? = _ := (hg6.block w3.heap.size (Array.getElem?_eq_some_iff.1 HG5.out).1 (cells_ne HG5.out ety (by decide))).trans HG5.out
  have hp6 : w6.heap[w.heap.size]? = _ := (hg6.block w.heap.size (Array.getElem?_eq_some_iff.1 HP5.out).1 (cells_ne HP5.out ety (by decide))).trans HP5.out
  have hr6 : RV 5 w6 A2 (bytesN id L).length ((bytesN id L).map (encN .u8)) := HR5.out.move (fun g cs x hh => hg6.block g (Array.getElem?_eq_some_iff.1 hh).1 (cells_ne hh ety (by decide)))
  obtain ⟨k60, k61, k62⟩ := hs6.cells
  have k671 : w6.cell? ⟨w3.heap.size, 1, none⟩ = some (.int .i64 (N : Nat)) := by rw [cell_of_row _ _ _ _ _ _ hg76]; rfl
  have hT6 : w6.cell? ⟨s, 1, none⟩ = some (.pointer (some ⟨er, 0, none⟩)) ∧ w6.cell? ⟨w3.heap.size, 1, none⟩ = some (.int .i64 (N : Nat)) := ⟨k61, k671⟩
  have HGR6 := Lib.hid (((Gr.of_below (fun k => DS db gs mb k ∨ k = er ∨ k = rb) HB1.out).trans (Gr.of_below (fun k => DS db gs mb k ∨ k = er ∨ k = rb) HB15.out) (fun x _ hx => hx)).trans hg6 (fun x _ hx => .inr (.inl hx)))
  have HS6 := Lib.hid hs6
  have HE6 := Lib.hid he6
  have HD6 := Lib.hid hd6
  have HG76 := Lib.hid hg76
  have HR6 := Lib.hid hr6
  have HP6 := Lib.hid hp6
  clear hs6 he6 hd6 hg76 hr6 hp6 hg6 HTK HS5 HE5 HD5 HG5 HR5 HP5 HB15 HB1 ety
  go_simp
  refine hK.out _ _ ?_
  clear hK K
  refine WL.take (i := 8) (v := ?_) rfl (by kernel_rfl) (by kernel_rfl) (by kernel_rfl) (by kernel_rfl) (fun _ _ _ h => h) (Or.inl ⟨by rfl, ?_⟩) (by assumption) ?_
  rotate_left 1
  · (intro w' hSw; (try (replace hSw := hSw (by decide); dsimp only at hSw)); go_split_ands; go_simp; try with_reducible rfl)
  simp only [Act.put, List.getElem_toArray, List.getElem_cons_zero, List.getElem_cons_succ, List.setIfInBounds_toArray, List.set_cons_zero, List.set_cons_succ]
  refine WL.take (i := 9) (v := ?_) rfl (by kernel_rfl) (by kernel_rfl) (by kernel_rfl) (by kernel_rfl) (fun _ _ _ h => h) (Or.inl ⟨by rfl, ?_⟩) (by assumption) ?_
  rotate_left 1
  · (intro w' hSw; (try (replace hSw := hSw (by decide); dsimp only at hSw)); go_split_ands; go_simp; try with_reducible rfl)
  simp only [Act.put, List.getElem_toArray, List.getElem_cons_zero, List.getElem_cons_succ, List.setIfInBounds_toArray, List.set_cons_zero, List.set_cons_succ]
  refine WL.take (i := 10) (v := ?_) rfl (by kernel_rfl) (by kernel_rfl) (by kernel_rfl) (by kernel_rfl) (fun _ _ _ h => h) (Or.inl ⟨by rfl, ?_⟩) (by assumption) ?_
  rotate_left 1
  · (intro w' hSw; (try (replace hSw := hSw (by decide); dsimp only at hSw)); go_split_ands; go_simp; try with_reducible rfl)
  simp only [Act.put, List.getElem_toArray, List.getElem_cons_zero, List.getElem_cons_succ, List.setIfInBounds_toArray, List.set_cons_zero, List.set_cons_succ]
  refine WL.take (i := 11) (v := ?_) rfl (by kernel_rfl) (by kernel_rfl) (by kernel_rfl) (by kernel_rfl) (fun _ _ _ h => h) (Or.inl ⟨by rfl, ?_⟩) (by assumption) ?_
  rotate_left 1
  · (intro w' hSw; (try (replace hSw := hSw (by decide); dsimp only at hSw)); go_split_ands; go_simp; try with_reducible rfl)
  simp only [Act.put, List.getElem_toArray, List.getElem_cons_zero, List.getElem_cons_succ, List.setIfInBounds_toArray, List.set_cons_zero, List.set_cons_succ]
  refine WL.take (i := 12) (v := ?_) rfl (by kernel_rfl) (by kernel_rfl) (by kernel_rfl) (by kernel_rfl) (fun _ _ _ h => h) (Or.inl ⟨by rfl, ?_⟩) (by assumption) ?_
  rotate_left 1
  · (intro w' hSw; (try (replace hSw := hSw (by decide); dsimp only at hSw)); go_split_ands; go_simp; try with_reducible rfl)
  simp only [Act.put, List.getElem_toArray, List.getElem_cons_zero, List.getElem_cons_succ, List.setIfInBounds_toArray, List.set_cons_zero, List.set_cons_succ]
  refine WL.done (by kernel_rfl) ?_ _
  obtain ⟨W7, hW7⟩ : ∃ W7, w6.alloc (.cells #[.int .i64 (at0 : Nat), .int .i64 (N : Nat)] 51) = W7 := ⟨_, rfl⟩
  have hb67 : Below w6.heap.size w6 W7 := by rw [← hW7]; exact (Below.refl _ _).alloc (Nat.le_refl _) _
  have hg11 : W7.heap[w6.heap.size]? = some (.cells #[.int .i64 (at0 : Nat), .int .i64 (N : Nat)] 51 (0, 0)) := by rw [← hW7]; exact heap_alloc_new _ _
  have HW7 := Lib.hid hW7
  have HB67 := Lib.hid hb67
  have HG11 := Lib.hid hg11
  clear hW7 hb67 hg11
  go_wp2_with (rw [HW7.out])
  have hb7 := HB67.out.trans ((Below.refl _ W7).drew.mono HB67.out.size)
  have hz7' := hb7.size
  have hd7 := HD6.out.below hb7
  have hs7 := HS6.out.below hb7
  have he7 := HE6.out.below hb7
  have hr7 := HR6.out.below hb7
  have hg77 : W7.drew.heap[w3.heap.size]? = _ := (hb7.block w3.heap.size (Array.getElem?_eq_some_iff.1 HG76.out).1).trans HG76.out
  have hp7 : W7.drew.heap[w.heap.size]? = _ := (hb7.block w.heap.size (Array.getElem?_eq_some_iff.1 HP6.out).1).trans HP6.out
  have hg117 : W7.drew.heap[w6.heap.size]? = some (.cells #[.int .i64 (at0 : Nat), .int .i64 (N : Nat)] 51 (0, 0)) := HG11.out
  obtain ⟨k70', _, _⟩ := hs7.cells
  have hsd := hs7.typed.1
  have hnds : ¬ DS db gs mb s := by
    obtain ⟨cs, x, q⟩ := hsd
    exact hd7.apart q (by decide) (by decide)
  have HWR := Lib.hid (GWrite_c s at0 N A2 c2 (bytesN id L) W7.drew hd7 k70' hs7.lt.1 (by unfold DS at hnds; omega) hr7 HC2.out HLT.out HLEN.out hat)
  have hgr7 : Gr (fun k => DS db gs mb k ∨ k = er ∨ k = rb) w W7.drew := HGR6.out.trans (Gr.of_below (fun k => DS db gs mb k ∨ k = er ∨ k = rb) hb7) (fun x _ hx => hx)
  have HD7 := Lib.hid hd7
  have HS7 := Lib.hid hs7
  have HE7 := Lib.hid he7
  have HG77 := Lib.hid hg77
  have HP7 := Lib.hid hp7
  have HG117 := Lib.hid hg117
  have HGR7 := Lib.hid hgr7
  clear hb7 hd7 hs7 he7 hr7 hg77 hp7 hg117 hgr7 hsd hnds HD6 HS6 HE6 HR6 HG76 HP6 HG11 HGR6 HB67
  refine wp_region_late [3] (fun w' => w'.heap[w6.heap.size]? = some (.cells #[.int .i64 (at0 : Nat), .int .i64 (N : Nat)] 51 (0, 0))) (by kernel_rfl) HG117.out (fun hT => ?_)
  refine WL.take (i := 0) (v := ?_) rfl (by kernel_rfl) (by kernel_rfl) (by kernel_rfl) (by kernel_rfl) (fun _ _ _ h => h) (Or.inl ⟨by rfl, ?_⟩) (by assumption) ?_
  rotate_left 1
  · (intro w' hSw; (try (replace hSw := hSw (by decide); dsimp only at hSw)); go_split_ands; go_simp; try with_reducible rfl)
  simp only [Act.put, List.getElem_toArray, List.getElem_cons_zero, List.getElem_cons_succ, List.setIfInBounds_toArray, List.set_cons_zero, List.set_cons_succ]
  refine WL.take (i := 1) (v := ?_) rfl (by kernel_rfl) (by kernel_rfl) (by kernel_rfl) (by kernel_rfl) (fun _ _ _ h => h) (Or.inl ⟨by rfl, ?_⟩) (by assumption) ?_
  rotate_left 1
  · (intro w' hSw; (try (replace hSw := hSw (by decide); dsimp only at hSw)); go_split_ands; go_simp; try with_reducible rfl)
  simp only [Act.put, List.getElem_toArray, List.getElem_cons_zero, List.getElem_cons_succ, List.setIfInBounds_toArray, List.set_cons_zero, List.set_cons_succ]
  refine WL.take (i := 2) (v := ?_) rfl (by kernel_rfl) (by kernel_rfl) (by kernel_rfl) (by kernel_rfl) (fun _ _ _ h => h) (Or.inl ⟨by rfl, ?_⟩) (by assumption) ?_
  rotate_left 1
  · (intro w' hSw; (try (replace hSw := hSw (by decide); dsimp only at hSw)); go_split_ands; go_simp; try with_reducible rfl)
  simp only [Act.put, List.getElem_toArray, List.getElem_cons_zero, List.getElem_cons_succ, List.setIfInBounds_toArray, List.set_cons_zero, List.set_cons_succ]
  refine WL.take (i := 3) (v := .agg #[.int .i64 (at0 : Nat), .int .i64 (N : Nat)]) rfl (by kernel_rfl) (by kernel_rfl) (by kernel_rfl) (by kernel_rfl) (fun _ _ _ h => h) (yieldsIf_load_blk (by rfl) _ _ rfl w6.heap.size (by rfl) _ _ (fun w hw => hw (by decide)) Tryz.underlying51 (by rfl) info_run_size) (by assumption) ?_
  simp only [Act.put, List.getElem_toArray, List.getElem_cons_zero, List.getElem_cons_succ, List.setIfInBounds_toArray, List.set_cons_zero, List.set_cons_succ]
  refine WL.take (i := 4) (v := ?_) rfl (by kernel_rfl) (by kernel_rfl) (by kernel_rfl) (by kernel_rfl) (fun _ _ _ h => h) (Or.inl ⟨by rfl, ?_⟩) (by assumption) ?_
  rotate_left 1
  · (intro w' hSw; (try (replace hSw := hSw (by decide); dsimp only at hSw)); go_split_ands; go_simp; try with_reducible rfl)
  simp only [Act.put, List.getElem_toArray, List.getElem_cons_zero, List.getElem_cons_succ, List.setIfInBounds_toArray, List.set_cons_zero, List.set_cons_succ]
  refine WL.late (i := 5) (by kernel_rfl) rfl (by kernel_rfl) (fun K hK => ?_)
  go_simp
  go_at_call 33
  refine HWR.out.mono ?_
  rintro e w8 ⟨rfl, ⟨dm8, hd8, hrd8⟩, hg8⟩
  have hs8 := HS7.out.ds HD7.out hne hg8
  have he8 := HE7.out.ds HD7.out hg8
  have hg78 : w8.heap[w3.heap.size]? = _ := (hg8.block w3.heap.size (Array.getElem?_eq_some_iff.1 HG77.out).1 (HD7.out.apart HG77.out (by decide) (by decide))).trans HG77.out
  have hp8 : w8.heap[w.heap.size]? = _ := (hg8.block w.heap.size (Array.getElem?_eq_some_iff.1 HP7.out).1 (HD7.out.apart HP7.out (by decide) (by decide))).trans HP7.out
  have hg118 : w8.heap[w6.heap.size]? = some (.cells #[.int .i64 (at0 : Nat), .int .i64 (N : Nat)] 51 (0, 0)) := (hg8.block w6.heap.size (Array.getElem?_eq_some_iff.1 HG117.out).1 (HD7.out.apart HG117.out (by decide) (by decide))).trans HG117.out
  have hgr8 : Gr (fun k => DS db gs mb k ∨ k = er ∨ k = rb) w w8 := HGR7.out.trans hg8 (fun x _ hx => .inl hx)
  have hT8 := hg118
  have HD8 := Lib.hid hd8
  have HRD8 := Lib.hid hrd8
  have HS8 := Lib.hid hs8
  have HE8 := Lib.hid he8
  have HG78 := Lib.hid hg78
  have HP8 := Lib.hid hp8
  have HG118 := Lib.hid hg118
  have HGR8 := Lib.hid hgr8
  clear hd8 hrd8 hs8 he8 hg78 hp8 hg118 hgr8 hg8 HWR HD7 HS7 HE7 HG77 HP7 HG117 HGR7
  go_simp
  refine hK.out _ _ ?_
  clear hK K
  refine WL.take (i := 6) (v := ?_) rfl (by kernel_rfl) (by kernel_rfl) (by kernel_rfl) (by kernel_rfl) (fun _ _ _ h => h) (Or.inl ⟨by rfl, ?_⟩) (by assumption) ?_
  rotate_left 1
  · (intro w' hSw; (try (replace hSw := hSw (by decide); dsimp only at hSw)); go_split_ands; go_simp; try with_reducible rfl)
  simp only [Act.put, List.getElem_toArray, List.getElem_cons_zero, List.getElem_cons_succ, List.setIfInBounds_toArray, List.set_cons_zero, List.set_cons_succ]
  refine WL.done (by kernel_rfl) ?_ _
  clear hT hT6 hT8 k71 k70 k0 k1 k2 k50 k51 k52 k60 k61 k62 k671
  have hbd := (Below.refl w8.heap.size w8).drew
  have hd9 := HD8.out.below hbd
  have hs9 := HS8.out.below hbd
  have he9 := HE8.out.below hbd
  have hg79 : w8.drew.heap[w3.heap.size]? = _ := HG78.out
  have hp9 : w8.drew.heap[w.heap.size]? = some (.cells #[.int .i64 0, .int .i64 0, .int .i64 0] 53 (0, 0)) := HP8.out
  have hg119 : w8.drew.heap[w6.heap.size]? = some (.cells #[.int .i64 (at0 : Nat), .int .i64 (N : Nat)] 51 (0, 0)) := HG118.out
  obtain ⟨q0, q1, q2⟩ := HS8.out.cells
  have q7 : w8.cell? ⟨w3.heap.size, 0, none⟩ = some (.int .i64 (id : Nat)) := by rw [cell_of_row _ _ _ _ _ _ HG78.out]; rfl
  obtain ⟨D, hown, hD⟩ := hs9.map
  have hsz := hD.small hs9.small
  have hkey := keyOfI id (by omega)
  have HD9 := Lib.hid hd9
  have HS9 := Lib.hid hs9
  have HE9 := Lib.hid he9
  have HG79 := Lib.hid hg79
  have HP9 := Lib.hid hp9
  have HG119 := Lib.hid hg119
  have HOWN := Lib.hid hown
  have HDD := Lib.hid hD
  clear hbd hd9 hs9 he9 hg79 hp9 hg119 hown hD
  go_wp2_with fail
  refine wp_region_late [3, 5, 6] (fun w' => w'.cell? ⟨s, 2, none⟩ = some (.map (some rb)) ∧ w'.cell? ⟨w3.heap.size, 0, none⟩ = some (.int .i64 (id : Nat)) ∧ w'.heap[w6.heap.size]? = some (.cells #[.int .i64 (at0 : Nat), .int .i64 (N : Nat)] 51 (0, 0))) (by kernel_rfl) ⟨q2, q7, HG118.out⟩ (fun hT => ?_)
  refine WL.take (i := 0) (v := ?_) rfl (by kernel_rfl) (by kernel_rfl) (by kernel_rfl) (by kernel_rfl) (fun _ _ _ h => h) (Or.inl ⟨by rfl, ?_⟩) (by assumption) ?_
  rotate_left 1
  · (intro w' hSw; (try (replace hSw := hSw (by decide); dsimp only at hSw)); go_split_ands; go_simp; try with_reducible rfl)
  simp only [Act.put, List.getElem_toArray, List.getElem_cons_zero, List.getElem_cons_succ, List.setIfInBounds_toArray, List.set_cons_zero, List.set_cons_succ]
  refine WL.take (i := 1) (v := ?_) rfl (by kernel_rfl) (by kernel_rfl) (by kernel_rfl) (by kernel_rfl) (fun _ _ _ h => h) (Or.inl ⟨by rfl, ?_⟩) (by assumption) ?_
  rotate_left 1
  · (intro w' hSw; (try (replace hSw := hSw (by decide); dsimp only at hSw)); go_split_ands; go_simp; try with_reducible rfl)
  simp only [Act.put, List.getElem_toArray, List.getElem_cons_zero, List.getElem_cons_succ, List.setIfInBounds_toArray, List.set_cons_zero, List.set_cons_succ]
  refine WL.take (i := 2) (v := ?_) rfl (by kernel_rfl) (by kernel_rfl) (by kernel_rfl) (by kernel_rfl) (fun _ _ _ h => h) (Or.inl ⟨by rfl, ?_⟩) (by assumption) ?_
  rotate_left 1
  · (intro w' hSw; (try (replace hSw := hSw (by decide); dsimp only at hSw)); go_split_ands; go_simp; try with_reducible rfl)
  simp only [Act.put, List.getElem_toArray, List.getElem_cons_zero, List.getElem_cons_succ, List.setIfInBounds_toArray, List.set_cons_zero, List.set_cons_succ]
  refine WL.take (i := 3) (v := ?_) rfl (by kernel_rfl) (by kernel_rfl) (by kernel_rfl) (by kernel_rfl) (fun _ _ _ h => h) (Or.inl ⟨by rfl, ?_⟩) (by assumption) ?_
  rotate_left 1
  · (intro w' hSw; (try (replace hSw := hSw (by decide); dsimp only at hSw)); go_split_ands; go_simp; try with_reducible rfl)
  simp only [Act.put, List.getElem_toArray, List.getElem_cons_zero, List.getElem_cons_succ, List.setIfInBounds_toArray, List.set_cons_zero, List.set_cons_succ]
  refine WL.take (i := 4) (v := ?_) rfl (by kernel_rfl) (by kernel_rfl) (by kernel_rfl) (by kernel_rfl) (fun _ _ _ h => h) (Or.inl ⟨by rfl, ?_⟩) (by assumption) ?_
  rotate_left 1
  · (intro w' hSw; (try (replace hSw := hSw (by decide); dsimp only at hSw)); go_split_ands; go_simp; try with_reducible rfl)
  simp only [Act.put, List.getElem_toArray, List.getElem_cons_zero, List.getElem_cons_succ, List.setIfInBounds_toArray, List.set_cons_zero, List.set_cons_succ]
  refine WL.take (i := 5) (v := ?_) rfl (by kernel_rfl) (by kernel_rfl) (by kernel_rfl) (by kernel_rfl) (fun _ _ _ h => h) (Or.inl ⟨by rfl, ?_⟩) (by assumption) ?_
  rotate_left 1
  · (intro w' hSw; (try (replace hSw := hSw (by decide); dsimp only at hSw)); go_split_ands; go_simp; try with_reducible rfl)
  simp only [Act.put, List.getElem_toArray, List.getElem_cons_zero, List.getElem_cons_succ, List.setIfInBounds_toArray, List.set_cons_zero, List.set_cons_succ]
  refine WL.take (i := 6) (v := .agg #[.int .i64 (at0 : Nat), .int .i64 (N : Nat)]) rfl (by kernel_rfl) (by kernel_rfl) (by kernel_rfl) (by kernel_rfl) (fun _ _ _ h => h) (yieldsIf_load_blk (by rfl) _ _ rfl w6.heap.size (by rfl) _ _ (fun w hw => (hw (by decide)).2.2) Tryz.underlying51 (by rfl) info_run_size) (by assumption) ?_
  simp only [Act.put, List.getElem_toArray, List.getElem_cons_zero, List.getElem_cons_succ, List.setIfInBounds_toArray, List.set_cons_zero, List.set_cons_succ]
  refine WL.late (i := 7) (by kernel_rfl) rfl (by kernel_rfl) (fun K hK => ?_)
  rw [if_pos (by rfl)]
  refine wp_mapUpdate_at (.tmp 85) (.tmp 87) (.tmp 88) 91 (by rfl) 3 51 lawK Tryz.underlying91 rdRun rb (Maps.size D) D (by rfl) (w := w8.drew) HOWN.out (by unfold maxLen; omega) (.int .i64 (id : Nat)) (runV (at0, N)) (.int .i64 (id : Nat)) (by rfl) (by rfl) hkey (secD (at0, N)) [] (rdRun_mk _) ?_
  intro w10 hown10 hturn10
  have hg10 := hturn10.grown
  have hgr10 := gr_grown hg10
  have hs10 := HS9.out.putR hg10 hown10 (HDD.out.put id ((at0, N), [])) hid
  have hd10 := HD9.out.rb HS9.out hne hgr10
  have he10 := HE9.out.rb HS9.out hgr10
  obtain ⟨_, ⟨es9, c9, qrb⟩⟩ := HS9.out.typed
  have hg710 : w10.heap[w3.heap.size]? = _ := (hgr10.block w3.heap.size (Array.getElem?_eq_some_iff.1 HG79.out).1 (map_ne HG79.out qrb)).trans HG79.out
  have hp10 : w10.heap[w.heap.size]? = some (.cells #[.int .i64 0, .int .i64 0, .int .i64 0] 53 (0, 0)) := (hgr10.block w.heap.size (Array.getElem?_eq_some_iff.1 HP9.out).1 (map_ne HP9.out qrb)).trans HP9.out
  have hg1110 : w10.heap[w6.heap.size]? = some (.cells #[.int .i64 (at0 : Nat), .int .i64 (N : Nat)] 51 (0, 0)) := (hgr10.block w6.heap.size (Array.getElem?_eq_some_iff.1 HG119.out).1 (map_ne HG119.out qrb)).trans HG119.out
  have HGR10 := Lib.hid ((HGR8.out.trans (Gr.of_below (fun k => DS db gs mb k ∨ k = er ∨ k = rb) (Below.refl _ w8).drew) (fun x _ hx => hx)).trans hgr10 (fun x _ hx => .inr (.inr hx)))
  have r7 : w10.cell? ⟨w3.heap.size, 0, none⟩ = some (.int .i64 (id : Nat)) := by rw [cell_of_row _ _ _ _ _ _ hg710]; rfl
  have rA : w10.cell? ⟨w6.heap.size, 0, none⟩ = some (.int .i64 (at0 : Nat)) := by rw [cell_of_row _ _ _ _ _ _ hg1110]; rfl
  have rN : w10.cell? ⟨w6.heap.size, 1, none⟩ = some (.int .i64 (N : Nat)) := by rw [cell_of_row _ _ _ _ _ _ hg1110]; rfl
  rw [HG4.out] at hp10
  have p0 : w10.cell? ⟨g4, 0, none⟩ = some (.int .i64 0) := by rw [cell_of_row _ _ _ _ _ _ hp10]; rfl
  have p1 : w10.cell? ⟨g4, 1, none⟩ = some (.int .i64 0) := by rw [cell_of_row _ _ _ _ _ _ hp10]; rfl
  have p2 : w10.cell? ⟨g4, 2, none⟩ = some (.int .i64 0) := by rw [cell_of_row _ _ _ _ _ _ hp10]; rfl
  have pf0 : w10.frozen? ⟨g4, 0, none⟩ = false := frozen_of_row _ _ _ _ _ hp10
  have pf1 : w10.frozen? ⟨g4, 1, none⟩ = false := frozen_of_row _ _ _ _ _ hp10
  have pf2 : w10.frozen? ⟨g4, 2, none⟩ = false := frozen_of_row _ _ _ _ _ hp10
  have hgP : Gr (fun k => k = g4) w10 (((w10.setCell ⟨g4, 0, none⟩ (.int .i64 (id : Nat))).setCell ⟨g4, 1, none⟩ (.int .i64 (at0 : Nat))).setCell ⟨g4, 2, none⟩ (.int .i64 (N : Nat))) := ((Gr.setCell (S := fun k => k = g4) _ _ _ rfl).trans (Gr.setCell (S := fun k => k = g4) _ _ _ rfl) (fun x _ hx => hx)).trans (Gr.setCell (S := fun k => k = g4) _ _ _ rfl) (fun x _ hx => hx)
  obtain ⟨⟨scs, sx, sty⟩, ⟨ses, sc, srb⟩⟩ := hs10.typed
  obtain ⟨ecs', ex', ety'⟩ := he10.typed
  have HPE := Lib.hid (place_set3 w10 g4 (.int .i64 (id : Nat)) (.int .i64 (at0 : Nat)) (.int .i64 (N : Nat)) _ _ _ hp10)
  have HDE := Lib.hid (hd10.off hgP (fun k hk => by subst hk; exact hd10.apart hp10 (by decide) (by decide)) (fun k hk cs x e => by subst hk; exact cells_ne hp10 e (by decide) rfl))
  have HSE := Lib.hid (hs10.off hgP (fun e => cells_ne sty hp10 (by decide) e) (fun e => map_ne hp10 srb e.symm))
  have HEE := Lib.hid (he10.off hgP (fun e => cells_ne ety' hp10 (by decide) e) (fun k hk cs e => by subst hk; exact cells_ne hp10 e (by decide) rfl))
  have HGRE := Lib.hid (HGR10.out.trans hgP (fun x hx e => by have := HG4.out; omega))
  clear hgP sty srb ety' hg1110 hown10 hturn10 hg10 hgr10 hs10 hd10 he10 qrb hg710 hp10 hT q0 q1 q2 q7 HD9 HS9 HE9 HG79 HP9 HG119 HOWN HDD HD8 HS8 HE8 HG78 HP8 HG118 HGR8
  refine hK.out _ _ ?_
  clear hK K
  refine WL.done (by kernel_rfl) ?_ _
  go_wp2_with fail
  refine bodyPost_ret (results_ct (P := Tryz.prog) (fn := Tryz.f11) rfl _ _ g4 53 _ (0, 0) _ rfl HPE.out Tryz.underlying53 rfl info_place) rfl ?_
  exact ⟨rfl, ⟨dm8, HDE.out, HRD8.out⟩, HSE.out, HEE.out, HGRE.out⟩
end Go.Proofs.YtbcamfbbooggfaaGreat.F
end
