/- Pieces given to a cutter, walked. -/
import Derived.Test.YtbckibjpaiealaaGm2
import Derived.Test.YtbckibjpaiealaaGW
import Derived.Test.YtbckibjpaiealaaGm0
set_option linter.unusedVariables false
set_option linter.unusedSimpArgs false
namespace Go.Proofs.Ytbckibjpaiealaa.F
open Go.RowKit Go.Proofs.YtbckibjpaiealaaW.PrintWords
attribute [local go_sem ↓] Go.wp_at_zero Go.wp_at_succ

/-- A cutter whose held bytes lie in a block from N on. -/
def CF (N : Nat) (W : World) (B mn av mx : Nat) (tb xs : List Nat) : Prop := ∃ hv, CU W B mn av mx tb hv (ghash tb xs) false ∧ OwnN .u8 5 W N hv xs
theorem CF.ch {N : Nat} {W : World} {B mn av mx : Nat} {tb xs : List Nat} (h : CF N W B mn av mx tb xs) : CH W B mn av mx tb xs := by
  obtain ⟨hv, h1, h2⟩ := h
  exact ⟨hv, N, h1, h2⟩
theorem CF.move {N : Nat} {W W' : World} {B mn av mx : Nat} {tb xs : List Nat} (h : CF N W B mn av mx tb xs) (hb : W'.heap[B]? = W.heap[B]?) (hm : ∀ k, N ≤ k → k < W.heap.size → W'.heap[k]? = W.heap[k]?) : CF N W' B mn av mx tb xs := by
  obtain ⟨hv, h1, h2⟩ := h
  exact ⟨hv, h1.move hb, h2.move (fun k hk => hm k (h2.typed k hk).1 (h2.typed k hk).2.1)⟩
theorem Write_f (W : World) (B : Nat) (mn av mx : Nat) (tb : List Nat) (xs : List Nat) (A : Option Addr) (c : Nat) (p : List Nat) (ht : tb.length = 256) (hav : 1 ≤ av) (hav2 : av ≤ 256)
    (hc : CH W B mn av mx tb xs) (hr : RN .u8 W A p) (hp : ∀ x ∈ p, x < 256) (hA : ∀ a, A = some a → 0 < p.length → a.block < W.heap.size ∧ a.block ≠ B) (hl : (xs.length + p.length + 1) * 24 ≤ 140737488355328) :
    Calls Try.prog 20 #[.pointer (some ⟨B, 0, none⟩), .slice A p.length c] W fun e w' =>
      ∃ vo okc, e = .returned (.tuple #[vo, .int .i64 0]) ∧ SRow w' okc W.heap.size 32 vo (p.foldl (gstep mn av mx tb) ([], xs)).1 ∧ (∀ k, okc k → W.heap.size ≤ k) ∧ 
        CF W.heap.size w' B mn av mx tb (p.foldl (gstep mn av mx tb) ([], xs)).2 ∧ KF W.heap.size B W w' := by
  obtain ⟨hv, base, h1, h2⟩ := hc
  refine (Write_c W base B mn av mx tb hv xs A c p ht hav hav2 h1 h2 hr hp hA hl).mono ?_
  rintro e w' ⟨vo, okc, hv', rfl, g1, g2, g3, g4, g5⟩
  exact ⟨vo, okc, rfl, g1, fun k hk => (g2 k hk).1, ⟨hv', g3, g4⟩, g5⟩
theorem End_h (W : World) (B : Nat) (mn av mx : Nat) (tb : List Nat) (xs : List Nat) (ht : tb.length = 256) (hc : CH W B mn av mx tb xs) (hl : xs.length ≤ 140737488355328) :
    Calls Try.prog 22 #[.pointer (some ⟨B, 0, none⟩)] W fun e w' =>
      ∃ v, e = .returned (.tuple #[v, .int .i64 0]) ∧ OwnN .u8 5 w' W.heap.size v xs ∧ CU w' B mn av mx tb (.slice none 0 0) 0 true ∧ KF W.heap.size B W w' := by
  obtain ⟨hv, base, h1, h2⟩ := hc
  exact End_c W base B mn av mx tb hv xs ht h1 h2 hl
/-- Blocks below lo and from hi on are as they were. -/
structure Btw (lo hi : Nat) (a b : World) : Prop where
  os : b.os = a.os
  tape : b.tape = a.tape
  output : b.output = a.output
  size : a.heap.size ≤ b.heap.size
  block : ∀ k, k < a.heap.size → (k < lo ∨ hi ≤ k) → b.heap[k]? = a.heap[k]?
theorem Btw.refl (lo hi : Nat) (a : World) : Btw lo hi a a := ⟨rfl, rfl, rfl, Nat.le_refl _, fun _ _ _ => rfl⟩
theorem Btw.setCell {lo hi : Nat} {a b : World} (h : Btw lo hi a b) {g j : Nat} (h1 : lo ≤ g) (h2 : g < hi) (v : Value) : Btw lo hi a (b.setCell ⟨g, j, none⟩ v) :=
  ⟨h.os, h.tape, h.output, by simpa using h.size, fun k hk hc => (heap_setCell_other _ _ _ _ (fun e => by
    have e2 : k = g := e
    omega)).trans (h.block k hk hc)⟩
theorem set_lt {zs : List Nat} (h : ∀ x ∈ zs, x < 256) (j : Nat) {y : Nat} (hy : y < 256) : ∀ x ∈ zs.set j y, x < 256 := fun x hx => by
  rcases List.mem_or_eq_of_mem_set hx with h1 | h1
  · exact h x h1
  · omega
theorem OwnN.head {k : IntKind} {e : TypeId} {W : World} {base : Nat} {A : Option Addr} {n c : Nat} {xs : List Nat} (h : OwnN k e W base (.slice A n c) xs) (hx : 0 < xs.length) : ∃ g, A = some ⟨g, 0, none⟩ ∧ n = xs.length ∧ base ≤ g ∧ g < W.heap.size := by
  rcases h.2 with ⟨_, h0⟩ | ⟨g, cap, cur, e2, hb, hh, hc, _⟩
  · omega
  · injection e2 with e3 e4 e5
    exact ⟨g, e3, e4, hb, (Array.getElem?_eq_some_iff.1 hh).1⟩
theorem OwnN.cellAt {k : IntKind} {e : TypeId} {W : World} {base g cap : Nat} {xs : List Nat} (h : OwnN k e W base (.slice (some ⟨g, 0, none⟩) xs.length cap) xs) (j : Nat) (hj : j < xs.length) : W.cell? ⟨g, j, none⟩ = some (.int k (xs[j] : Nat)) := by
  have h' : W.ownsRow base e 1 (.slice (some ⟨g, 0, none⟩) xs.length cap) xs.length (xs.map (encN k)) := h
  rw [h'.cellAt j (by omega)]
  simp [hj, encN]
theorem OwnN.frozenAt {k : IntKind} {e : TypeId} {W : World} {base g cap : Nat} {xs : List Nat} (h : OwnN k e W base (.slice (some ⟨g, 0, none⟩) xs.length cap) xs) (j : Nat) : W.frozen? ⟨g, j, none⟩ = false :=
  World.ownsRow.frozenAt (show W.ownsRow base e 1 (.slice (some ⟨g, 0, none⟩) xs.length cap) xs.length (xs.map (encN k)) from h) j
theorem OwnN.stored {k : IntKind} {e : TypeId} {W : World} {base g cap : Nat} {xs : List Nat} (h : OwnN k e W base (.slice (some ⟨g, 0, none⟩) xs.length cap) xs) (j x : Nat) : OwnN k e (W.setCell ⟨g, j, none⟩ (.int k (x : Nat))) base (.slice (some ⟨g, 0, none⟩) xs.length cap) (xs.set j x) := by
  have h' : W.ownsRow base e 1 (.slice (some ⟨g, 0, none⟩) xs.length cap) xs.length (xs.map (encN k)) := h
  have := (h'.stored j (.int k (x : Nat))).1
  unfold OwnN
  rw [List.length_set, List.map_set]
  exact this
theorem cnt_le : ∀ (l : List (List Nat)), (∀ c ∈ l, 1 ≤ c.length) → l.length ≤ l.flatten.length
  | [], _ => by simp
  | c :: l, h => by
    have ih := cnt_le l (fun x hx => h x (by simp [hx]))
    have := h c (by simp)
    simp only [List.length_cons, List.flatten_cons, List.length_append]
    omega
theorem chunk_cnt {mn av mx : Nat} {tb p : List Nat} (h1 : 1 ≤ mn) (h2 : mn ≤ mx) : (p.foldl (gstep mn av mx tb) ([], [])).1.length ≤ p.length ∧ (p.foldl (gstep mn av mx tb) ([], [])).2.length < mx := by
  have h := gfold_inv (av := av) (tb := tb) h1 h2 p ([], []) ⟨by simp, by simp; omega⟩
  have hc := cnt_le _ (fun c hc => Nat.le_trans h1 (h.1.1 c hc).1)
  refine ⟨?_, h.1.2⟩
  have h3 := congrArg List.length h.2
  simp only [List.length_append, List.flatten_nil, List.length_nil] at h3
  omega
theorem fold_next (mn av mx : Nat) (tb p q : List Nat) : (p ++ q).foldl (gstep mn av mx tb) ([], []) = ((p.foldl (gstep mn av mx tb) ([], [])).1 ++ (q.foldl (gstep mn av mx tb) ([], (p.foldl (gstep mn av mx tb) ([], [])).2)).1, (q.foldl (gstep mn av mx tb) ([], (p.foldl (gstep mn av mx tb) ([], [])).2)).2) := by
  rw [List.foldl_append]
  have h := fold_pre (mn := mn) (av := av) (mx := mx) (tb := tb) q (p.foldl (gstep mn av mx tb) ([], [])).1 [] (p.foldl (gstep mn av mx tb) ([], [])).2
  rw [List.append_nil] at h
  exact h
theorem Btw.below {lo hi N : Nat} {a b : World} (h : Btw lo hi a b) (h1 : N ≤ lo) (h2 : N ≤ a.heap.size) : Below N a b :=
  ⟨h.os, h.tape, h.output, h.size, fun k hk => h.block k (by omega) (.inl (by omega))⟩
theorem KF.below {base B N : Nat} {a b : World} (h : KF base B a b) (h1 : N ≤ base) (h2 : N ≤ B) : Below N a b := ⟨h.os, h.tape, h.output, h.size, fun k hk => h.block k (by omega) (by omega)⟩
theorem KF.thenB {base B : Nat} {a b c : World} (h : KF base B a b) (h2 : Below base b c) : KF base B a c := ⟨h2.os.trans h.os, h2.tape.trans h.tape, h2.output.trans h.output, Nat.le_trans h.size h2.size, fun k hk hb => (h2.block k hk).trans (h.block k hk hb)⟩
theorem KF.mono {base B N : Nat} {a b : World} (h : KF base B a b) (h1 : N ≤ base) : KF N B a b := ⟨h.os, h.tape, h.output, h.size, fun k hk hb => h.block k (by omega) hb⟩
theorem flat_sub {out : List (List Nat)} (h : ∀ x ∈ out.flatten, x < 256) (k : Nat) : ∀ x ∈ (out.take k).flatten, x < 256 := fun x hx => h x (by
  rw [← List.take_append_drop k out, List.flatten_append]; exact List.mem_append_left _ hx)

set_option maxRecDepth 20000 in
set_option maxHeartbeats 40000000 in
theorem GearPieces_walk (mn av mx : Int) (seed : Nat) (A : Option Addr) (c : Nat) (css : List (List Nat)) (w : World) (hs : seed < 18446744073709551616)
    (hr : RR w A css) (hb : ∀ x ∈ css.flatten, x < 256) (hl : css.flatten.length ≤ 1048576) :
    Calls Try.prog 7 #[.agg #[.int .i64 mn, .int .i64 av, .int .i64 mx], .int .u64 seed, .slice A css.length c] w fun e w' => e = .returned (.bool true) ∧ Below w.heap.size w w' := by
  have hmx := hr.max
  have HRR := Lib.hid hr
  have HBB := Lib.hid hb
  clear hr hb
  have htc := refTable_c seed hs
  have hz := zeroT
  obtain ⟨tl, htl⟩ : ∃ tl : List Value, (gtab seed).map (encN .u32) = tl := ⟨_, rfl⟩
  have htt : tabA (gtab seed) = tl.toArray := by unfold tabA; rw [htl]
  have hll : tl.length = 256 := by rw [← htl, List.length_map, gtab_len]
  have ho1 : ∀ v ∈ tl, v.oneCell' = true := by
    intro v hv
    rw [← htl] at hv
    obtain ⟨x, _, rfl⟩ := List.mem_map.1 hv
    rfl
  obtain ⟨W0, hW0⟩ : ∃ W0, w.alloc (.cells #[.int .i64 mn, .int .i64 av, .int .i64 mx] 24) = W0 := ⟨_, rfl⟩
  have hB0 : Below w.heap.size w W0 := by rw [← hW0]; exact (Below.refl _ _).alloc (Nat.le_refl _) _
  have hs0 : W0.heap.size = w.heap.size + 1 := by rw [← hW0]; simp
  have hg : W0.heap[w.heap.size]? = some (.cells #[.int .i64 mn, .int .i64 av, .int .i64 mx] 24 (0, 0)) := by rw [← hW0]; exact heap_alloc_new _ _
  rw [htt] at htc
  obtain ⟨sv, hsv⟩ : ∃ sv : Int, (seed : Int) = sv := ⟨_, rfl⟩
  rw [hsv] at htc ⊢
  have HT := Lib.hid htc
  have HG := Lib.hid hg
  have HTT := Lib.hid htt
  clear htc hg htt hsv
  have hck := fun W => refCheck_c mn av mx W
  have HK := Lib.hid hck
  clear hck
  go_enter Try.func7, Try.ntmps7
  go_wp2_with fail
  refine (HT.out _).mono ?_
  rintro e w1 ⟨rfl, hb1⟩
  have hs1 := hb1.size
  have hi2 : (Try.prog.info? 27).map (·.size) = some tl.toArray.size := by rw [List.size_toArray, hll]; exact infoT
  have hzs : zeros256.size = tl.toArray.size := (Array.size_replicate : zeros256.size = 256).trans (by rw [List.size_toArray]; exact hll.symm)
  have hoc : tl.toArray.all (·.oneCell') = true := by rw [List.all_toArray]; exact List.all_eq_true.2 ho1
  have HI := Lib.hid hi2
  have HZS := Lib.hid hzs
  have HOC := Lib.hid hoc
  clear hi2 hzs hoc
  have hn : (w1.alloc (.cells zeros256 27)).heap[w1.heap.size]? = some (.cells zeros256 27 (0, 0)) := heap_alloc_new _ _
  obtain ⟨W2, hW2⟩ : ∃ W2, (w1.alloc (.cells zeros256 27)).setRow w1.heap.size tl.toArray = W2 := ⟨_, rfl⟩
  have hB1 : Below w1.heap.size w1 W2 := by rw [← hW2]; exact below_setRow ((Below.refl _ _).alloc (Nat.le_refl _) _) (Nat.le_refl _) _
  have hg2 : W2.heap[w1.heap.size]? = some (.cells tl.toArray 27 (0, 0)) := by rw [← hW2]; exact setRow_heap _ _ _ _ _ _ hn
  have hs2 : W2.heap.size = w1.heap.size + 1 := by rw [← hW2]; simp
  have hcu : W2.heap[w.heap.size]? = some (.cells #[.int .i64 mn, .int .i64 av, .int .i64 mx] 24 (0, 0)) := (hB1.block _ (by omega)).trans ((hb1.block _ (by omega)).trans HG.out)
  have HN := Lib.hid hn
  have HW2 := Lib.hid hW2
  have hbw2 : Below w.heap.size w W2 := (hB0.trans (hb1.mono hB0.size)).trans (hB1.mono (by omega))
  have HBW2 := Lib.hid hbw2
  have HG2 := Lib.hid hg2
  have HCU := Lib.hid hcu
  clear hn hW2 hg2 hcu hb1 hB1 hbw2 hB0 hW0
  have HG3 := HG2
  have HB3 := HBW2
  have hcu3 := HCU.out
  have c0 : W2.cell? ⟨w.heap.size, 0, none⟩ = some (.int .i64 mn) := by rw [cell_of_row _ _ _ _ _ _ hcu3]; rfl
  have c1 : W2.cell? ⟨w.heap.size, 1, none⟩ = some (.int .i64 av) := by rw [cell_of_row _ _ _ _ _ _ hcu3]; rfl
  have c2 : W2.cell? ⟨w.heap.size, 2, none⟩ = some (.int .i64 mx) := by rw [cell_of_row _ _ _ _ _ _ hcu3]; rfl
  clear hcu3
  go_wp2_with (first | rw [HW2.out] | refine wpList_store_row rfl 27 (.tmp 7) (.tmp 28) rfl w1.heap.size rfl tl.toArray zeros256 rfl 27 HN.out HI.out HZS.out HOC.out ?_ | refine wpList_load_row rfl 27 (.tmp 7) rfl w1.heap.size rfl 27 tl.toArray (0, 0) _ HG3.out Try.underlying27 rfl HI.out ?_)
  by_cases hcut0 : cutOk mn av mx = false
  · have hcv : checkV mn av mx = 2 := by unfold checkV; rw [hcut0]; rfl
    have hnb := fun W => New_bad mn av mx (gtab seed) W (gtab_len seed) hcut0
    rw [HTT.out] at hnb
    have HNB := Lib.hid hnb
    clear hnb hcut0
    refine (HNB.out _).mono ?_
    rintro e w5 ⟨rfl, hb5⟩
    have k0 := cell_under hb5 (by omega) c0
    have k1 := cell_under hb5 (by omega) c1
    have k2 := cell_under hb5 (by omega) c2
    have HB5 := Lib.hid (HB3.out.trans (hb5.mono HB3.out.size))
    clear hb5
    go_wp2_with fail
    have hkk := HK.out w5
    rw [hcv] at hkk
    refine hkk.mono ?_
    rintro e w6 ⟨rfl, hb6⟩
    have HB6 := Lib.hid (HB5.out.trans (hb6.mono HB5.out.size))
    clear hb6 hkk
    go_wp2_with fail
    refine (live_c _).mono ?_
    rintro e w7 ⟨rfl, hb7⟩
    have HB7 := Lib.hid (HB6.out.trans (hb7.mono HB6.out.size))
    clear hb7
    go_wp2_with fail
    go_ret
    exact ⟨rfl, HB7.out⟩
  have hcut : cutOk mn av mx = true := by simpa using hcut0
  clear hcut0
  have hgl := gtab_lt seed
  have hg0 := gtab_len seed
  obtain ⟨a, b, d, rfl, rfl, rfl⟩ := cut_nat hcut
  have hmn : 1 ≤ a ∧ a ≤ d ∧ d ≤ 512 ∧ 1 ≤ b ∧ b ≤ 256 := by
    unfold cutOk at hcut
    simp only [Bool.and_eq_true, decide_eq_true_eq] at hcut
    have := isPow_dvd hcut.2
    omega
  have hcv : checkV a b d = 0 := by unfold checkV; rw [if_pos hcut]
  have hkk := fun W => HK.out W
  rw [hcv] at hkk
  have HKK := Lib.hid hkk
  clear hkk hcv
  have hnew := fun W => New_h a b d (gtab seed) W hg0 hcut
  have hsp := fun (A : Option Addr) (c : Nat) (p : List Nat) (W : World) (hr : RN .u8 W A p) (hp : ∀ x ∈ p, x < 256) (hn : p.length ≤ 10000000) => SplitG_c a b d (gtab seed) A c p W hg0 hgl hcut hr hp hn
  rw [HTT.out] at hsp hnew
  have HSP := Lib.hid hsp
  have HNEW := Lib.hid hnew
  have hilen : (Try.prog.info? 27).map (·.size) = some tl.length := by rw [hll]; exact infoT
  have hu27 := Try.underlying27
  clear hsp hnew hgl
  refine (HNEW.out _).mono ?_
  rintro e w5 ⟨B, rfl, hB, hch5, hb5⟩
  have hs5 := hb5.size
  have k0 := cell_under hb5 (by omega) c0
  have k1 := cell_under hb5 (by omega) c1
  have k2 := cell_under hb5 (by omega) c2
  have hbw5 := HB3.out.trans (hb5.mono HB3.out.size)
  have HG5 := Lib.hid ((hb5.block _ (by omega)).trans HG3.out)
  have HB5 := Lib.hid hbw5
  have HCH5 := Lib.hid hch5
  have hwB : w.heap.size < B := by omega
  have hw1B : w1.heap.size < B := by omega
  have hB5l := hch5.lt
  clear hbw5 hb5 hch5 c0 c1 c2 HG3 HB3 HNEW HG2 HBW2 HCU
  go_wp2_with fail
  refine (HKK.out _).mono ?_
  rintro e w6 ⟨rfl, hb6⟩
  have hs6 := hb6.size
  have j0 := cell_under hb6 (by omega) k0
  have j1 := cell_under hb6 (by omega) k1
  have j2 := cell_under hb6 (by omega) k2
  have HG6 := Lib.hid ((hb6.block _ (by omega)).trans HG5.out)
  have HB6 := Lib.hid (HB5.out.trans (hb6.mono HB5.out.size))
  have HCH6 := Lib.hid (HCH5.out.below hb6)
  have hB6l := HCH6.out.lt
  clear hb6 k0 k1 k2 HG5 HB5 HCH5
  go_wp2_with fail
  go_loopw [10, 11, 12] (fun va vg vi W => ∃ (k : Nat) (okc : Nat → Prop), k ≤ css.length ∧ vi = .int .i64 k ∧ CH W B a b d (gtab seed) ((css.take k).flatten.foldl (gstep a b d (gtab seed)) ([], [])).2 ∧ OwnN .u8 5 W w6.heap.size va (css.take k).flatten ∧ SRow W okc w6.heap.size 32 vg ((css.take k).flatten.foldl (gstep a b d (gtab seed)) ([], [])).1 ∧ (∀ j, okc j → w6.heap.size ≤ j ∧ va.ownBlock ≠ some j) ∧ KF w6.heap.size B w6 W) (fun _ _ vi _ => css.length - (intOf vi).toNat)
  case atStart => exact ⟨0, fun _ => False, by omega, rfl, HCH6.out, OwnN.nil _ _ _ _, SRow.nil _ _ _, fun _ h => h.elim, KF.refl _ _ _⟩
  case round =>
    obtain ⟨k, okc, hk, rfl, hch, hva, hvg, hok, hkf⟩ := hrel
    have hft := fun h => flat_take css k h
    have hfl := flat_len css (k + 1)
    have hfl0 := flat_len css k
    have hpb := flat_sub HBB.out k
    have hpb2 := flat_sub HBB.out (k + 1)
    obtain ⟨P, hP⟩ : ∃ P, (css.take k).flatten = P := ⟨_, rfl⟩
    rw [hP] at hft hfl0 hpb hch hva hvg
    have hcnt := chunk_cnt (av := b) (tb := gtab seed) (p := P) hmn.1 hmn.2.1
    have hnext := fun q => fold_next a b d (gtab seed) P q
    obtain ⟨F, hF⟩ : ∃ F, P.foldl (gstep a b d (gtab seed)) ([], []) = F := ⟨_, rfl⟩
    rw [hF] at hch hvg hcnt hnext
    obtain ⟨Av, cv, rfl, hcv0, hrv, hnv⟩ := hva.form
    have hPl : P.length ≤ 1048576 := by omega
    have hPm : (P.length : Int) ≤ 1048576 := by omega
    have hsz := hkf.size
    have hbw : Below w.heap.size w wr := HB6.out.trans (hkf.below (by omega) (by omega))
    have g0 := (cell_move (a := ⟨w.heap.size, 0, none⟩) (hkf.block w.heap.size (by omega) (by omega))).trans j0
    have g1 := (cell_move (a := ⟨w.heap.size, 1, none⟩) (hkf.block w.heap.size (by omega) (by omega))).trans j1
    have g2 := (cell_move (a := ⟨w.heap.size, 2, none⟩) (hkf.block w.heap.size (by omega) (by omega))).trans j2
    have HG7 := Lib.hid ((hkf.block w1.heap.size (by omega) (by omega)).trans HG6.out)
    have HCH := Lib.hid hch
    have HVA := Lib.hid hva
    have HVG := Lib.hid hvg
    have HOK := Lib.hid hok
    have HKF := Lib.hid hkf
    have HBW := Lib.hid hbw
    have HPB := Lib.hid hpb
    have HRV := Lib.hid hrv
    have HNX := Lib.hid hnext
    have HFF := Lib.hid hF
    clear hch hva hvg hok hkf hbw hpb hrv hnext hF hP
    by_cases hlt : k < css.length
    · have hd : decide ((k : Int) < css.length) = true := decide_eq_true (by omega)
      obtain ⟨ad, A9, c9, e, q9, l9, r9⟩ := (HRR.out.below HBW.out).at k hlt
      subst e
      have hft := hft hlt
      rw [hft, List.length_append] at hfl
      rw [hft] at hpb2
      obtain ⟨ys, hys⟩ : ∃ ys, css[k] = ys := ⟨_, rfl⟩
      rw [hys] at q9 l9 r9 hft hfl hpb2
      have HYS := Lib.hid hys
      have hyb : ∀ x ∈ ys, x < 256 := fun x hx => hpb2 x (List.mem_append_right _ hx)
      have hyl : ys.length ≤ 1048576 := by omega
      have hsm := fun W (hr : RN .u8 W A9 ys) => small_c A9 c9 ys W hr l9
      obtain ⟨zs, hzs⟩ : ∃ zs, ys.take 3000 = zs := ⟨_, rfl⟩
      rw [hzs] at hsm
      have hzl : zs.length ≤ 3000 := by rw [← hzs, List.length_take]; omega
      have HSM := Lib.hid hsm
      have HFT := Lib.hid hft
      have HPB2 := Lib.hid hpb2
      have HYB := Lib.hid hyb
      have HR9 := Lib.hid r9
      have i0 : (0 : Int) ≤ (k : Int) := by omega
      have i1 : (k : Int) < (css.length : Int) := by omega
      clear hys hft hpb2 hyb r9 hzs hsm
      by_cases h3 : P.length + zs.length ≤ 3000
      · have h3' : (P.length : Int) + zs.length ≤ 3000 := by omega
        have h3d : decide ((P.length : Int) + zs.length ≤ 3000) = true := decide_eq_true h3'
        obtain ⟨wo, rfl⟩ : ∃ wo : World, wo = wr := ⟨_, rfl⟩
        have hO := empty_lit wo
        have hbA : Below wo.heap.size wo (wo.alloc (.cells #[] 5)) := (Below.refl _ _).alloc (Nat.le_refl _) _
        have hs2 : wo.heap.size ≤ (wo.alloc (.cells #[] 5)).heap.size := by simp
        have q10 : (wo.alloc (.cells #[] 5)).cell? (ad.add k) = some (.slice A9 ys.length c9) := (hbA.cell (World.block_lt_of_cell? _ _ q9)).trans q9
        have hyl1 : (([] : List Nat).length + ys.length) * 1 ≤ 140737488355328 := by simp; omega
        have hpl2 : (P.length + ys.length) * 1 ≤ 140737488355328 := by omega
        have HO := Lib.hid hO
        have HBA := Lib.hid hbA
        have HRY := Lib.hid (HR9.out.below hbA)
        have HYL := Lib.hid hyl1
        have HPL2 := Lib.hid hpl2
        clear hO hbA hyl1 hpl2
        go_wp2_with fail
        refine (HSM.out _ HR9.out).mono ?_
        rintro e wq ⟨rfl, rfl⟩
        go_wp2_with (at_builtin; refine append_NN wq.heap.size rfl (.tmp 67) (.tmp 71) 32 5 .u8 1 rfl Try.underlying32 info_u8 (by decide) (.slice (some ⟨wq.heap.size, 0, none⟩) 0 0) [] ys A9 c9 rfl rfl HO.out HRY.out hs2 HYL.out ?_; intro v6 x6 ho6 hg6 hat6)
        rw [List.nil_append] at ho6
        have hb6 := HBA.out.trans (below_grown HO.out hs2 hg6)
        obtain ⟨A6, c6, rfl, hc6, hr6, hn6⟩ := ho6.form
        have HH6 := Lib.hid (HCH.out.below hb6)
        have HO6 := Lib.hid ho6
        have HB6x := Lib.hid hb6
        have HR6 := Lib.hid hr6
        have hs6x := hb6.size
        have hA6 : ∀ x, A6 = some x → 0 < ys.length → x.block < x6.heap.size ∧ x.block ≠ B := fun x hx h0 => by
          obtain ⟨g, e6, _, hg1, hg2⟩ := ho6.head h0
          rw [hx] at e6
          injection e6 with e6
          subst e6
          exact ⟨hg2, by dsimp only; omega⟩
        have HA6 := Lib.hid hA6
        clear ho6 hg6 hat6 hb6 hr6 HO HBA HRY hs2 HCH q10 hA6
        go_wp2_with fail
        refine (Write_f x6 B a b d (gtab seed) F.2 A6 c6 ys hg0 hmn.2.2.2.1 hmn.2.2.2.2 HH6.out HR6.out HYB.out HA6.out (by omega)).mono ?_
        rintro e w7 ⟨vo, okc3, rfl, hvo, hok3, hcf7, hk7⟩
        obtain ⟨G, hG⟩ : ∃ G, ys.foldl (gstep a b d (gtab seed)) ([], F.2) = G := ⟨_, rfl⟩
        rw [hG] at hvo hcf7
        have hs7 := hk7.size
        have ho7 : OwnN .u8 5 w7 wq.heap.size (.slice A6 ys.length c6) ys := HO6.out.move (fun j hj => hk7.block j (HO6.out.typed j hj).2.1 (by have := (HO6.out.typed j hj).1; omega))
        obtain ⟨Xo, xo, rfl, hxo, rro⟩ := hvo.reads
        have HVO := Lib.hid hvo
        have HOK3 := Lib.hid hok3
        have HCF7 := Lib.hid hcf7
        have HK7 := Lib.hid hk7
        have HO7 := Lib.hid ho7
        have HGG := Lib.hid hG
        clear hvo hok3 hcf7 hk7 ho7 hG rro HH6 HR6 HA6
        go_wp2_with fail
        go_loopw [16] (fun vk W => ∃ (j : Nat) (zs : List Nat), j ≤ ys.length ∧ vk = .int .i64 j ∧ zs.length = ys.length ∧ (∀ x ∈ zs, x < 256) ∧ OwnN .u8 5 W wq.heap.size (.slice A6 ys.length c6) zs ∧ Btw wq.heap.size x6.heap.size w7 W) (fun vk _ => ys.length - (intOf vk).toNat)
        case atStart => exact ⟨0, ys, by omega, rfl, rfl, HYB.out, HO7.out, Btw.refl _ _ _⟩
        case round =>
          obtain ⟨j, zs, hj, rfl, hzl, hzb, hoz, hbt⟩ := hrel
          have HZL := Lib.hid hzl
          have HZB := Lib.hid hzb
          have HBT := Lib.hid hbt
          by_cases hlt2 : j < ys.length
          · have hd2 : decide ((j : Int) < ys.length) = true := decide_eq_true (by omega)
            obtain ⟨g, rfl, _, hg1, hg2⟩ := hoz.head (by omega)
            have hg3 : g < x6.heap.size := (HO6.out.typed g rfl).2.1
            rw [← hzl] at hoz
            have hcell := hoz.cellAt j (by omega)
            have hfr := hoz.frozenAt j
            have hzj : zs[j]'(by omega) < 256 := hzb _ (List.getElem_mem _)
            obtain ⟨z, hz⟩ : ∃ z, zs[j]'(by omega) = z := ⟨_, rfl⟩
            rw [hz] at hcell hzj
            have hxor : Go.bits .xor .u8 (z : Int) 1 = ((z ^^^ 1 : Nat) : Int) := u8_xor_nat z 1 hzj (by omega)
            have hxl : z ^^^ 1 < 256 := Nat.xor_lt_two_pow (n := 8) hzj (by omega)
            have hst := hoz.stored j (z ^^^ 1)
            have HST := Lib.hid hst
            have i2 : (0 : Int) ≤ (j : Int) := by omega
            have i3 : (j : Int) < (ys.length : Int) := by omega
            clear hzl hzb hoz hbt hz hst
            go_wp2_with fail
            refine ⟨⟨j + 1, zs.set j (z ^^^ 1), by omega, by go_num, by rw [List.length_set]; exact HZL.out, set_lt HZB.out j hxl, ?_, HBT.out.setCell hg1 hg3 _⟩, by simp [intOf]; omega⟩
            have h := HST.out
            rw [HZL.out] at h
            exact h
          · have hd2 : decide ((j : Int) < ys.length) = false := decide_eq_false (by omega)
            have hbx : Below w.heap.size w x6 := HBW.out.trans (HB6x.out.mono (by omega))
            have hb7' : Below w.heap.size x6 w7 := HK7.out.below (by omega) (by omega)
            have hbt' : Below w.heap.size w7 wr := hbt.below (by omega) (by omega)
            have hbw : Below w.heap.size w wr := (hbx.trans hb7').trans hbt'
            obtain ⟨ad2, A8, c8, e2, q11, l11, r11⟩ := (HRR.out.below hbw).at k hlt
            injection e2 with e2
            subst e2
            rw [HYS.out] at q11 l11 r11
            have hsr := hbt.size
            have hmv : ∀ j, w6.heap.size ≤ j → j < wq.heap.size → wr.heap[j]? = wq.heap[j]? := fun j h1 h2 => ((hbt.block j (by omega) (.inl h2)).trans (HK7.out.block j (by omega) (by omega))).trans (HB6x.out.block j h2)
            have hlo : ∀ j, (Value.slice Av P.length cv).ownBlock = some j → w6.heap.size ≤ j ∧ j < wq.heap.size := fun j hj => ⟨(HVA.out.typed j hj).1, (HVA.out.typed j hj).2.1⟩
            have hlg : ∀ j, u11.ownBlock = some j → w6.heap.size ≤ j ∧ j < wq.heap.size := fun j hj => ⟨(HVG.out.typed j hj).1, (HVG.out.typed j hj).2.1⟩
            have hva2 := HVA.out.move (W' := wr) (fun j hj => hmv j (hlo j hj).1 (hlo j hj).2)
            have hvg2 := HVG.out.move (W' := wr) (by omega) (fun j hj => by
              rcases hj with hj | hj
              · exact hmv j (HOK.out j hj).1 (HVG.out.okc_lt j hj)
              · exact hmv j (hlg j hj).1 (hlg j hj).2)
            have hcf2 := HCF7.out.move (W' := wr) (hbt.block B (by omega) (.inl (by omega))) (fun j hk1 hk2 => hbt.block j hk2 (.inr hk1))
            have hvo2 := HVO.out.move (W' := wr) (by omega) (fun j hj => by
              rcases hj with hj | hj
              · exact hbt.block j (HVO.out.okc_lt j hj) (.inr (HOK3.out j hj))
              · exact hbt.block j (HVO.out.typed j hj).2.1 (.inr (HVO.out.typed j hj).1))
            have hlvo : ∀ j, (Value.slice Xo G.1.length xo).ownBlock = some j → x6.heap.size ≤ j := fun j hj => (HVO.out.typed j hj).1
            have hkf2 : KF w6.heap.size B w6 wr := ((HKF.out.thenB (HB6x.out.mono (by omega))).trans (HK7.out.mono (by omega))).thenB (hbt.below (by omega) (by omega))
            have HVA2 := Lib.hid hva2
            have HVG2 := Lib.hid hvg2
            have HCF2 := Lib.hid hcf2
            have HVO2 := Lib.hid hvo2
            have HLO := Lib.hid hlo
            have HLG := Lib.hid hlg
            have HLVO := Lib.hid hlvo
            have HKF2 := Lib.hid hkf2
            have HR11 := Lib.hid r11
            have hw6r : w6.heap.size ≤ wr.heap.size := by omega
            obtain ⟨PY, hPY⟩ : ∃ PY, P ++ ys = PY := ⟨_, rfl⟩
            have hnx := HNX.out ys
            rw [HGG.out, hPY] at hnx
            have hPYl : PY.length = P.length + ys.length := by rw [← hPY, List.length_append]
            have hcp := chunk_cnt (av := b) (tb := gtab seed) (p := PY) hmn.1 hmn.2.1
            obtain ⟨F', hF'⟩ : ∃ F', PY.foldl (gstep a b d (gtab seed)) ([], []) = F' := ⟨_, rfl⟩
            rw [hF'] at hnx hcp
            have hF1 : F.1 ++ G.1 = F'.1 := by rw [hnx]
            have hF2 : G.2 = F'.2 := by rw [hnx]
            have hFl : F.1.length + G.1.length = F'.1.length := by rw [← hF1, List.length_append]
            have hl24 : (F.1.length + G.1.length) * 24 ≤ 140737488355328 := by omega
            have HF' := Lib.hid hF'
            have HF1 := Lib.hid hF1
            have HF2 := Lib.hid hF2
            have HPY := Lib.hid hPY
            have HL24 := Lib.hid hl24
            have hbPY : ∀ x ∈ PY, x < 256 := by rw [← hPY]; exact HPB2.out
            have HBPY := Lib.hid hbPY
            have HPYL := Lib.hid hPYl
            have hPYb : PY.length ≤ 2097152 := by omega
            clear hzl hzb hoz hbt hbx hb7' hbt' hbw hmv hlo hlg hva2 hvg2 hcf2 hvo2 hlvo hkf2 r11 hPY hnx hF' hF1 hF2 hFl hl24 hbPY hPYl HVA HVG HCF7 HVO HK7 HB6x HO6 HO7 HBT HZB HZL HKF
            go_wp2_with (first
              | (at_builtin; refine append_NN w6.heap.size rfl (.tmp 91) (.tmp 95) 32 5 .u8 1 rfl Try.underlying32 info_u8 (by decide) (.slice Av P.length cv) P ys A8 c8 rfl rfl HVA2.out HR11.out hw6r HPL2.out ?_; intro v8 x8 ho8 hg8 hat8; rw [HPY.out] at ho8; obtain ⟨A7, c7, rfl, hc7, hr7, hn7⟩ := ho8.form; have hs8 := hg8.size; have hvg8 := HVG2.out.move (W' := x8) hs8 (fun j hj => by
                  rcases hj with hj | hj
                  · exact hg8.block j (HVG2.out.okc_lt j hj) (fun e => (HOK.out j hj).2 e.symm)
                  · exact hg8.block j (HVG2.out.typed j hj).2.1 (fun e => by
                      obtain ⟨_, cs1, h1⟩ := HVA2.out.block j e.symm
                      obtain ⟨_, _, cs2, h2⟩ := HVG2.out.typed j hj
                      exact ne_of_type h1 h2 (by decide) rfl)); have hvo8 := HVO2.out.move (W' := x8) hs8 (fun j hj => by
                  rcases hj with hj | hj
                  · exact hg8.block j (HVO2.out.okc_lt j hj) (fun e => by have := (HLO.out j e.symm).2; have := HOK3.out j hj; omega)
                  · exact hg8.block j (HVO2.out.typed j hj).2.1 (fun e => by have := (HLO.out j e.symm).2; have := HLVO.out j hj; omega)); have HVG8 := Lib.hid hvg8; have HVO8 := Lib.hid hvo8; have hw6x : w6.heap.size ≤ x8.heap.size := Nat.le_trans hw6r hs8; clear hvg8 hvo8)
              | (at_builtin; refine append_SR w6.heap.size rfl (.tmp 97) (.tmp 98) 34 32 rfl Try.underlying34 info_bytes u11 okc okc3 F.1 G.1 Xo xo x6.heap.size rfl rfl HVG8.out HVO8.out (fun j hj e => by have := (HLG.out j e).2; have := HOK3.out j hj; omega) hw6x HL24.out ?_; intro v9 x9 ho9 hg9 hat9; rw [HF1.out] at ho9; have hs9 := hg9.size; have hkf9 : KF w6.heap.size B w6 x9 := (HKF2.out.thenB (below_grown HVA2.out hw6r hg8)).thenB ⟨hg9.os, hg9.tape, hg9.output, hg9.size, fun j hj => hg9.block j (by omega) (fun e => by have := (HLG.out j e.symm).1; omega)⟩; have hcf9 := (HCF2.out.move (W' := x8) (hg8.block B (by omega) (fun e => by have := (HLO.out B e.symm).1; omega)) (fun j h1 h2 => hg8.block j h2 (fun e => by have := (HLO.out j e.symm).2; omega))).move (W' := x9) (hg9.block B (by omega) (fun e => by have := (HLG.out B e.symm).1; omega)) (fun j h1 h2 => hg9.block j h2 (fun e => by have := (HLG.out j e.symm).2; omega)); rw [HF2.out] at hcf9; have hne9 : ∀ j, (Value.slice A7 PY.length c7).ownBlock = some j → x9.heap[j]? = x8.heap[j]? := (fun j hj => hg9.block j (ho8.typed j hj).2.1 (fun e => by
                  obtain ⟨_, cs1, h1⟩ := ho8.block j hj
                  obtain ⟨_, _, cs2, h2⟩ := HVG8.out.typed j e.symm
                  exact ne_of_type h1 h2 (by decide) rfl)); have ho9a := ho8.move (W' := x9) hne9; have hr9 := hr7.move (W' := x9) (fun q hq => by
                  subst hq
                  exact hne9 q.block rfl); have hokn : ∀ j, (okc j ∨ okc3 j) → w6.heap.size ≤ j ∧ (Value.slice A7 PY.length c7).ownBlock ≠ some j := (fun j hj => by
                  have hlt : j < wr.heap.size := by
                    rcases hj with hj | hj
                    · exact HVG2.out.okc_lt j hj
                    · exact HVO2.out.okc_lt j hj
                  have hge : w6.heap.size ≤ j := by
                    rcases hj with hj | hj
                    · exact (HOK.out j hj).1
                    · have := HOK3.out j hj; omega
                  refine ⟨hge, fun e => ?_⟩
                  rcases hat8 with h8 | ⟨q, h8, h8l⟩
                  · rw [h8] at e
                    rcases hj with hj | hj
                    · exact (HOK.out j hj).2 e
                    · have := (HLO.out j e).2; have := HOK3.out j hj; omega
                  · rw [h8] at e; injection e with e; omega); have n0 := (cell_move (a := ⟨w.heap.size, 0, none⟩) (hkf9.block w.heap.size (by omega) (by omega))).trans j0; have n1 := (cell_move (a := ⟨w.heap.size, 1, none⟩) (hkf9.block w.heap.size (by omega) (by omega))).trans j1; have n2 := (cell_move (a := ⟨w.heap.size, 2, none⟩) (hkf9.block w.heap.size (by omega) (by omega))).trans j2; have HG9 := Lib.hid ((hkf9.block w1.heap.size (by omega) (by omega)).trans HG6.out); have HKF9 := Lib.hid hkf9; have HCF9 := Lib.hid hcf9; have HO9A := Lib.hid ho9a; have HR9x := Lib.hid hr9; have HOKN := Lib.hid hokn; have HS9 := Lib.hid ho9; clear hkf9 hcf9 hne9 ho9a hr9 hokn ho9 hg9 hat9 hg8 hat8 ho8 hr7)
              | refine wpList_load_row rfl 27 (.tmp 7) rfl w1.heap.size rfl 27 tl.toArray (0, 0) _ HG9.out Try.underlying27 rfl HI.out ?_)
            refine (HSP.out A7 c7 PY x9 HR9x.out HBPY.out (by omega)).mono ?_
            rintro e w10 ⟨v10, B10, b10, okc10, rfl, hso10, hr10, hlt10, hb10⟩
            rw [HF'.out] at hso10 ⊢
            obtain ⟨X10, x10, rfl, hx10, rr10⟩ := hso10.reads
            have hs10 := HS9.out.below hb10
            obtain ⟨X9, x9c, rfl, hx9, rr9⟩ := hs10.reads
            have HS10 := Lib.hid hs10
            have RR10 := Lib.hid rr10
            have RR9 := Lib.hid rr9
            have HCH10 := Lib.hid (HCF9.out.ch.below hb10)
            have HO10 := Lib.hid (HO9A.out.kept hb10)
            have HKF10 := Lib.hid (HKF9.out.thenB (hb10.mono (by have := HKF9.out.size; omega)))
            clear hso10 hr10 hlt10 hb10 hs10 rr10 rr9 HS9 HCF9 HO9A HKF9 n0 n1 n2 HG9 HR9x HVG8 HVO8 HVA2 HVG2 HVO2 HKF2 HCF2
            go_wp2_with fail
            refine (Same_c X9 X10 _ _ F'.1 _ RR9.out RR10.out).mono ?_
            rintro e w11 ⟨rfl, n11, rfl⟩
            have hdr : Below w10.heap.size w10 (w10.drewN n11) := pw_below_drewN (Below.refl _ _) n11
            have HCH11 := Lib.hid (HCH10.out.below hdr)
            have HO11 := Lib.hid (HO10.out.kept hdr)
            have HS11 := Lib.hid (HS10.out.below hdr)
            have HKF11 := Lib.hid (HKF10.out.thenB (hdr.mono (by have := HKF10.out.size; omega)))
            clear hdr HCH10 HO10 HS10 HKF10 RR9 RR10
            go_wp2_with fail
            refine (Held_h _ B a b d (gtab seed) F'.2 hg0 HCH11.out).mono ?_
            rintro e w12 ⟨rfl, rfl⟩
            go_wp2_with fail
            exact ⟨⟨k + 1, fun j => okc j ∨ okc3 j, by omega, by go_num, by rw [HFT.out, HPY.out, HF'.out]; exact HCH11.out, by rw [HFT.out, HPY.out]; exact HO11.out, by rw [HFT.out, HPY.out, HF'.out]; exact HS11.out, HOKN.out, HKF11.out⟩, by simp [intOf]; omega⟩
      · have h3' : ¬ (P.length : Int) + zs.length ≤ 3000 := by omega
        have h3d : decide ((P.length : Int) + zs.length ≤ 3000) = false := decide_eq_false h3'
        clear hfl hfl0 HFT HPB2 HYB HYS
        go_wp2_with fail
        refine (HSM.out _ HR9.out).mono ?_
        rintro e wq ⟨rfl, rfl⟩
        go_wp2_with (refine wpList_load_row rfl 27 (.tmp 7) rfl w1.heap.size rfl 27 tl.toArray (0, 0) _ HG7.out Try.underlying27 rfl HI.out ?_)
        refine (HSP.out Av cv P _ HRV.out HPB.out (by omega)).mono ?_
        rintro e t1 ⟨v11, B11, b11, okc11, rfl, hso11, hr11, hl11, hb11⟩
        rw [HFF.out] at hr11 ⊢
        have hst1 := hb11.size
        have HCHt := Lib.hid (HCH.out.below hb11)
        have HR11 := Lib.hid hr11
        have HL11 := Lib.hid hl11
        have HBt1 := Lib.hid (HBW.out.trans (hb11.mono HBW.out.size))
        clear hso11 hr11 hl11 hb11 HCH HBW HRV HVA HVG HOK HKF HG7 g0 g1 g2 j0 j1 j2 HSP
        go_wp2_with fail
        refine (End_h t1 B a b d (gtab seed) F.2 hg0 HCHt.out (by omega)).mono ?_
        rintro e t2 ⟨v12, rfl, ho12, hcu12, hk12⟩
        have hst2 := hk12.size
        have hr12 := HR11.out.move2 (W' := t2) (fun q hq h0 => hk12.block q.block (HL11.out q hq).2 (by have := (HL11.out q hq).1; omega))
        obtain ⟨A12, c12, rfl, hc12, hrA, hn12⟩ := ho12.form
        have HBt2 := Lib.hid (HBt1.out.trans (hk12.below (by omega) (by omega)))
        have HCU12 := Lib.hid hcu12
        have HR12 := Lib.hid hr12
        have HRA := Lib.hid hrA
        clear ho12 hcu12 hk12 hr12 hrA HCHt HR11 HL11 HBt1
        go_wp2_with fail
        refine (EndG_ended t2 B a b d (gtab seed) _ _ hg0 HCU12.out).mono ?_
        rintro e t3 ⟨rfl, rfl⟩
        go_wp2_with fail
        refine (WriteG_ended t3 B a b d (gtab seed) _ _ _ hg0 HCU12.out).mono ?_
        rintro e t4 ⟨rfl, hb4⟩
        have HCU4 := Lib.hid (HCU12.out.move (hb4.block B HCU12.out.lt))
        have HR4 := Lib.hid (HR12.out.below hb4)
        have HRA4 := Lib.hid (HRA.out.below hb4)
        have HBt4 := Lib.hid (HBt2.out.trans (hb4.mono HBt2.out.size))
        clear hb4 HCU12 HR12 HRA HBt2
        go_wp2_with fail
        refine (live_c _).mono ?_
        rintro e t5 ⟨rfl, hb5⟩
        have HCU5 := Lib.hid (HCU4.out.move (hb5.block B HCU4.out.lt))
        have hcs1 := RN.string (P := Try.prog) (c := c12) Try.underlying32 Try.underlying5 Try.underlying9 (HRA4.out.below hb5)
        have hcs2 := RN.string (P := Try.prog) (c := b11) Try.underlying32 Try.underlying5 Try.underlying9 (HR4.out.below hb5)
        have HBt5 := Lib.hid (HBt4.out.trans (hb5.mono HBt4.out.size))
        clear hb5 HCU4 HR4 HRA4 HBt4
        go_wp2_with fail
        refine (Held_c t5 0 B a b d (gtab seed) (.slice none 0 0) [] _ true hg0 HCU5.out (OwnN.nil _ _ _ _)).mono ?_
        rintro e t6 ⟨rfl, rfl⟩
        go_wp2_with fail
        go_ret
        exact ⟨by simp, HBt5.out⟩
    · have hd : decide ((k : Int) < css.length) = false := decide_eq_false (by omega)
      clear hfl hfl0 hft hpb2
      go_wp2_with (refine wpList_load_row rfl 27 (.tmp 7) rfl w1.heap.size rfl 27 tl.toArray (0, 0) _ HG7.out Try.underlying27 rfl HI.out ?_)
      refine (HSP.out Av cv P _ HRV.out HPB.out (by omega)).mono ?_
      rintro e t1 ⟨v11, B11, b11, okc11, rfl, hso11, hr11, hl11, hb11⟩
      rw [HFF.out] at hr11 ⊢
      have hst1 := hb11.size
      have HCHt := Lib.hid (HCH.out.below hb11)
      have HR11 := Lib.hid hr11
      have HL11 := Lib.hid hl11
      have HBt1 := Lib.hid (HBW.out.trans (hb11.mono HBW.out.size))
      clear hso11 hr11 hl11 hb11 HCH HBW HRV HVA HVG HOK HKF HG7 g0 g1 g2 j0 j1 j2 HSP
      go_wp2_with fail
      refine (End_h t1 B a b d (gtab seed) F.2 hg0 HCHt.out (by omega)).mono ?_
      rintro e t2 ⟨v12, rfl, ho12, hcu12, hk12⟩
      have hst2 := hk12.size
      have hr12 := HR11.out.move2 (W' := t2) (fun q hq h0 => hk12.block q.block (HL11.out q hq).2 (by have := (HL11.out q hq).1; omega))
      obtain ⟨A12, c12, rfl, hc12, hrA, hn12⟩ := ho12.form
      have HBt2 := Lib.hid (HBt1.out.trans (hk12.below (by omega) (by omega)))
      have HCU12 := Lib.hid hcu12
      have HR12 := Lib.hid hr12
      have HRA := Lib.hid hrA
      clear ho12 hcu12 hk12 hr12 hrA HCHt HR11 HL11 HBt1
      go_wp2_with fail
      refine (EndG_ended t2 B a b d (gtab seed) _ _ hg0 HCU12.out).mono ?_
      rintro e t3 ⟨rfl, rfl⟩
      go_wp2_with fail
      refine (WriteG_ended t3 B a b d (gtab seed) _ _ _ hg0 HCU12.out).mono ?_
      rintro e t4 ⟨rfl, hb4⟩
      have HCU4 := Lib.hid (HCU12.out.move (hb4.block B HCU12.out.lt))
      have HR4 := Lib.hid (HR12.out.below hb4)
      have HRA4 := Lib.hid (HRA.out.below hb4)
      have HBt4 := Lib.hid (HBt2.out.trans (hb4.mono HBt2.out.size))
      clear hb4 HCU12 HR12 HRA HBt2
      go_wp2_with fail
      refine (live_c _).mono ?_
      rintro e t5 ⟨rfl, hb5⟩
      have HCU5 := Lib.hid (HCU4.out.move (hb5.block B HCU4.out.lt))
      have hcs1 := RN.string (P := Try.prog) (c := c12) Try.underlying32 Try.underlying5 Try.underlying9 (HRA4.out.below hb5)
      have hcs2 := RN.string (P := Try.prog) (c := b11) Try.underlying32 Try.underlying5 Try.underlying9 (HR4.out.below hb5)
      have HBt5 := Lib.hid (HBt4.out.trans (hb5.mono HBt4.out.size))
      clear hb5 HCU4 HR4 HRA4 HBt4
      go_wp2_with fail
      refine (Held_c t5 0 B a b d (gtab seed) (.slice none 0 0) [] _ true hg0 HCU5.out (OwnN.nil _ _ _ _)).mono ?_
      rintro e t6 ⟨rfl, rfl⟩
      go_wp2_with fail
      go_ret
      exact ⟨by simp, HBt5.out⟩
end Go.Proofs.Ytbckibjpaiealaa.F
