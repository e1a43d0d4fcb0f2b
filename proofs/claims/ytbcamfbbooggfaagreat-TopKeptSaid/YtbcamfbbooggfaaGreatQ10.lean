/- Part 10 of the proof: TK3. -/
import Derived.Test.YtbcamfbbooggfaaGreatQ09
import Derived.Test.YtbcamfbbooggfaaGreatQ07
import Derived.ArgAppend
import Derived.Laws.CopyRow
import Derived.Lib.SlBytesConst
import Derived.Test.YtbcamfbbooggfaaGreatQ06
import Derived.Test.YtbcamfbbooggfaaGreatQ08
import Derived.Deep.MidRow
import Derived.Deep.Cut
import Derived.Deep.CutRange
import Derived.Deep.DrawnRows

/- Numbers are laid behind. -/
set_option linter.unusedVariables false
set_option linter.unusedSimpArgs false
namespace Go.Proofs.YtbcamfbbooggfaaGreat.F
open Go.RowKit Go.Proofs.YtbcamfbbooggfaaGreatW.PrintWords

/-- What was below base, and what is no row of bytes, is as it was. -/
structure GrU (base : Nat) (W W' : World) : Prop where
  os : W'.os = W.os
  tape : W'.tape = W.tape
  output : W'.output = W.output
  size : W.heap.size ≤ W'.heap.size
  block : ∀ k, k < W.heap.size → (k < base ∨ ∃ cs t z, W.heap[k]? = some (.cells cs t z) ∧ t ≠ 5) → W'.heap[k]? = W.heap[k]?
theorem GrU.refl (base : Nat) (W : World) : GrU base W W := ⟨rfl, rfl, rfl, Nat.le_refl _, fun _ _ _ => rfl⟩
theorem GrU.trans {base : Nat} {a b c : World} (h : GrU base a b) (k : GrU base b c) : GrU base a c :=
  ⟨k.os.trans h.os, k.tape.trans h.tape, k.output.trans h.output, Nat.le_trans h.size k.size, fun i hi hn => by
    have h1 := h.block i hi hn
    refine (k.block i (Nat.lt_of_lt_of_le hi h.size) ?_).trans h1
    rcases hn with hn | ⟨cs, t, z, h2, h3⟩
    · exact .inl hn
    · exact .inr ⟨cs, t, z, h1.trans h2, h3⟩⟩
theorem GrU.below {base : Nat} {a b : World} (h : GrU base a b) (hb : base ≤ a.heap.size) : Below base a b := ⟨h.os, h.tape, h.output, h.size, fun k hk => h.block k (by omega) (.inl hk)⟩
theorem GrU.ofBelow {base : Nat} {a b : World} (h : Below a.heap.size a b) : GrU base a b := ⟨h.os, h.tape, h.output, h.size, fun k hk _ => h.block k hk⟩
theorem GrU.mono {base base' : Nat} {a b : World} (h : GrU base a b) (hb : base' ≤ base) : GrU base' a b := ⟨h.os, h.tape, h.output, h.size, fun k hk hn => h.block k hk (hn.imp (fun h => by omega) id)⟩
theorem GrU.ofGrown {base : Nat} {W w1 : World} {v : Value} {xs : List Nat} (h : OwnN .u8 5 W base v xs) (hg : W.grownBy w1 v.ownBlock) : GrU base W w1 :=
  ⟨hg.os, hg.tape, hg.output, hg.size, fun k hk hn => hg.block k hk (fun e => by
    obtain ⟨h1, h2, cs, h3⟩ := h.typed k e.symm
    rcases hn with hn | ⟨cs', t, z, h4, h5⟩
    · omega
    · rw [h3] at h4
      injection h4 with h4
      injection h4 with _ h6 _
      exact h5 h6.symm)⟩
/-- A row of bytes that may be appended to: one's own, or one without room. -/
def AP (W : World) (base : Nat) (v : Value) (xs : List Nat) : Prop :=
  OwnN .u8 5 W base v xs ∨ ∃ g, v = .slice (some ⟨g, 0, none⟩) xs.length xs.length ∧ ∀ j u, (xs.map (encN .u8))[j]? = some u → W.cell? ⟨g, j, none⟩ = some u
theorem AP.form {W : World} {base : Nat} {v : Value} {xs : List Nat} (h : AP W base v xs) : ∃ A c, v = .slice A xs.length c := by
  rcases h with h | ⟨g, h, _⟩
  · obtain ⟨A, c, e, _⟩ := h.reads
    exact ⟨A, c, e⟩
  · exact ⟨_, _, h⟩
theorem AP.below {W W' : World} {base : Nat} {v : Value} {xs : List Nat} (h : AP W base v xs) (hb : Below W.heap.size W W') : AP W' base v xs := by
  rcases h with h | ⟨g, h, hc⟩
  · exact .inl (h.kept hb)
  · exact .inr ⟨g, h, fun j u hu => by
      have h1 := hc j u hu
      rw [hb.cell (p := ⟨g, j, none⟩) (block_lt_of_cell h1)]
      exact h1⟩
section
set_option maxRecDepth 20000
variable {ops : Array Oper} {rest : List Oper} {o : Oper} {a : Act} {Q : Exit → Act → World → Prop}
theorem append_AP {W : World} (base : Nat) (hgd : o.guard = none) (s x : Operand)
    (ho : o.op = .call { callee := .builtin .append, args := #[s, x], argTypes := #[25, 25] })
    (v : Value) (xs ys : List Nat) (A : Option Addr) (c : Nat) (hs : a.eval s = v) (hx : a.eval x = .slice A ys.length c)
    (HA : AP W base v xs) (HR : RN .u8 W A ys) (hy : 0 < ys.length) (hbase : base ≤ W.heap.size) (hl : xs.length + ys.length ≤ 140737488355328)
    (h : ∀ v1 w1, OwnN .u8 5 w1 base v1 (xs ++ ys) → GrU base W w1 → wpList Tryz.prog ops Q rest (a.put o.dst v1) w1) :
    wpList Tryz.prog ops Q (o :: rest) a W := by
  rcases HA with HO | ⟨g, rfl, hc⟩
  · exact append_NN base hgd s x 25 5 .u8 1 ho Tryz.underlying25 info_u8 (by decide) v xs ys A c hs hx HO HR hbase (by omega) (fun v1 w1 h1 h2 _ => h v1 w1 h1 (GrU.ofGrown HO h2))
  · obtain ⟨i0, hi0, hz0, hz1, hz2⟩ := info_parts info_u8
    obtain ⟨ad, hA, _⟩ := HR.at 0 hy
    subst hA
    refine Go.wpList_append_arg W hgd s x 25 ho 5 i0 (.int .u8 0) 1 1 Tryz.underlying25 hi0 hz0 hz1 hz2 rfl (by decide) g 0 xs.length xs.length (xs.map (encN .u8)) hs (by simp) (fun j u hu => by rw [Nat.zero_add]; exact hc j u hu)
      ad ys.length c (ys.map (encN .u8)) hx (by simp) (fun j u hu => ?_) (fun u hu => ?_) (fun hh => by omega) (by simp only [maxLen]; omega) (by omega) (fun hh => by omega) (fun _ v1 w1 h1 h2 => ?_)
    · have hj : j < ys.length := by
        rcases Nat.lt_or_ge j ys.length with h | h
        · exact h
        · simp [List.getElem?_eq_none h] at hu
      obtain ⟨ad', h', hc'⟩ := HR.at j hj
      injection h' with h'
      subst h'
      simp [hj] at hu
      rw [← hu]
      exact hc'
    · simp only [List.mem_map] at hu
      obtain ⟨q, _, rfl⟩ := hu
      rfl
    · refine h v1 w1 ?_ (GrU.ofBelow ⟨h2.os, h2.tape, h2.output, h2.size, fun k hk => h2.block k hk (by simp)⟩)
      have : OwnN .u8 5 w1 W.heap.size v1 (xs ++ ys) := by
        unfold OwnN
        rw [List.length_append, List.map_append]
        exact h1
      exact this.lower hbase
end
/-- Numbers, each in so many bytes. -/
def fixN (l : List (Nat × Nat)) : List Nat := l.flatMap fun x => bigN x.2 x.1
theorem fixN_take (l : List (Nat × Nat)) (i : Nat) (h : i < l.length) : fixN (l.take (i + 1)) = fixN (l.take i) ++ bigN l[i].2 l[i].1 := by
  unfold fixN
  rw [List.take_succ_eq_append_getElem h, List.flatMap_append]
  simp
theorem fixN_le (l : List (Nat × Nat)) (h : ∀ x ∈ l, x.2 ≤ 8) : (fixN l).length ≤ l.length * 8 := by
  induction l with
  | nil => simp [fixN]
  | cons x r ih =>
    have h1 := ih (fun y hy => h y (by simp [hy]))
    have h2 := h x (by simp)
    rw [show fixN (x :: r) = bigN x.2 x.1 ++ fixN r from rfl, List.length_append, bigN_len, List.length_cons]
    omega
/-- The numbers' pairs, as they lie in a block. -/
def PairsAt (W : World) (g : Nat) (l : List (Nat × Nat)) : Prop :=
  (∃ cs z, W.heap[g]? = some (.cells cs 161 z)) ∧ ∀ i (h : i < l.length), W.cell? ⟨g, i * 2, none⟩ = some (.int .i64 (l[i].1 : Nat)) ∧ W.cell? ⟨g, i * 2 + 1, none⟩ = some (.int .i64 (l[i].2 : Nat))
theorem PairsAt.gr {W W' : World} {base g : Nat} {l : List (Nat × Nat)} (h : PairsAt W g l) (hg : GrU base W W') : PairsAt W' g l := by
  obtain ⟨⟨cs, z, h1⟩, h2⟩ := h
  have h3 := hg.block g (Array.getElem?_eq_some_iff.1 h1).1 (.inr ⟨cs, _, z, h1, by decide⟩)
  exact ⟨⟨cs, z, h3.trans h1⟩, fun i hi => ⟨(cell_move (a := ⟨g, i * 2, none⟩) h3).trans (h2 i hi).1, (cell_move (a := ⟨g, i * 2 + 1, none⟩) h3).trans (h2 i hi).2⟩⟩
def FixRel (W : World) (base i : Nat) (v : Value) (xs : List Nat) : Prop := AP W base v xs ∧ (0 < i → OwnN .u8 5 W base v xs)
set_option maxRecDepth 20000 in
set_option maxHeartbeats 4000000 in
theorem fixed_c (base : Nat) (v : Value) (xs : List Nat) (gl c : Nat) (l : List (Nat × Nat)) (w : World) (hA : AP w base v xs) (hP : PairsAt w gl l) (hbase : base ≤ w.heap.size) (hx : xs.length ≤ 100000000) (hl : l.length ≤ 100) (hl0 : 0 < l.length)
    (hok : ∀ x ∈ l, 1 ≤ x.2 ∧ x.2 ≤ 4 ∧ x.1 < 256 ^ x.2) :
    Calls Tryz.prog 61 #[v, .slice (some ⟨gl, 0, none⟩) l.length c] w fun e w' => ∃ v1, e = .returned v1 ∧ OwnN .u8 5 w' base v1 (xs ++ fixN l) ∧ GrU base w w' := by
  obtain ⟨A0, c0, ev⟩ := hA.form
  subst ev
  have HA := Lib.hid hA
  have HP := Lib.hid hP
  have HOK := Lib.hid hok
  have n0 : (l.length : Int) ≤ 100 := by omega
  clear hA hP hok
  go_enter Tryz.func61, Tryz.ntmps61
  go_wp2_with fail
  go_loopw [0, 11] (fun vb vi W => ∃ i : Nat, i ≤ l.length ∧ vi = .int .i64 i ∧ FixRel W base i vb (xs ++ fixN (l.take i)) ∧ GrU base w W) (fun _ vi _ => l.length - (intOf vi).toNat)
  case atStart => exact ⟨0, by omega, rfl, ⟨by simpa [fixN] using HA.out, fun h => by omega⟩, GrU.refl _ _⟩
  case round =>
    obtain ⟨i, hi, rfl, hf, hg⟩ := hrel
    obtain ⟨A1, c1, ev⟩ := hf.1.form
    have hsz := hg.size
    subst ev
    have HF := Lib.hid hf
    have HG := Lib.hid hg
    have HPr := Lib.hid (HP.out.gr hg)
    clear hf hg
    by_cases hlt : i < l.length
    · have hd : decide ((i : Int) < l.length) = true := decide_eq_true (by omega)
      have i0 : (0 : Int) ≤ (i : Int) := by omega
      have i1 : (i : Int) < (l.length : Int) := by omega
      obtain ⟨a1, a2⟩ := HPr.out.2 i hlt
      have hst := fixN_take l i hlt
      have hle := fixN_le (l.take i) (fun x hx => by have := (HOK.out x (List.mem_of_mem_take hx)).2.1; omega)
      rw [List.length_take] at hle
      have hbd := HOK.out _ (List.getElem_mem hlt)
      obtain ⟨⟨n, k⟩, hnk⟩ : ∃ x, l[i] = x := ⟨_, rfl⟩
      rw [hnk] at a1 a2 hst hbd
      dsimp only at a1 a2 hst hbd
      obtain ⟨hk1, hk2, hk3⟩ := hbd
      have hn53 : n ≤ 9007199254740991 := by
        have : (256 : Nat) ^ k ≤ 256 ^ 4 := Nat.pow_le_pow_right (by decide) hk2
        have : (256 : Nat) ^ 4 = 4294967296 := by decide
        omega
      have hxl : (xs ++ fixN (l.take i)).length ≤ 100001000 := by rw [List.length_append]; omega
      obtain ⟨ys, hys⟩ : ∃ ys, xs ++ fixN (l.take i) = ys := ⟨_, rfl⟩
      have hnx : xs ++ fixN (l.take (i + 1)) = ys ++ bigN k n := by rw [hst, ← hys, List.append_assoc]
      rw [hys] at HF hxl ⊢
      have HNX := Lib.hid hnx
      have HK3 := Lib.hid hk3
      clear hnk hst hle hys hnx hk3
      go_wp2_with fail
      refine (Fixed_c n k _ hk1 (by omega) hn53 (fun _ => HK3.out)).mono ?_
      rintro e w5 ⟨v5, rfl, ho5, hb5⟩
      obtain ⟨A5, c5, e5, hc5, hr5⟩ := ho5.reads
      subst e5
      have hb05 : Below wr.heap.size wr w5 := ((Below.refl wr.heap.size wr).alloc (Nat.le_refl _) _).trans (hb5.mono (by simp))
      have hap := HF.out.1.below hb05
      have hs5 : base ≤ w5.heap.size := Nat.le_trans (Nat.le_trans hbase hsz) hb05.size
      have hl5 : ys.length + (bigN k n).length ≤ 140737488355328 := by rw [bigN_len]; omega
      have hl6 : 0 < (bigN k n).length := by rw [bigN_len]; omega
      obtain ⟨zs, hzs⟩ : ∃ zs, bigN k n = zs := ⟨_, rfl⟩
      rw [hzs] at hr5 hl5 hl6 HNX ⊢
      have HG5 := Lib.hid (HG.out.trans (GrU.ofBelow hb05))
      have HAP := Lib.hid hap
      have HR5 := Lib.hid hr5
      have HL5 := Lib.hid hl5
      have HL6 := Lib.hid hl6
      clear hap hr5 hl5 hl6 ho5 hb5 hb05 hzs HF HG hc5
      go_wp2_with (at_builtin; refine append_AP base rfl (.tmp 23) (.tmp 24) rfl (.slice A1 ys.length c1) ys zs A5 c5 rfl rfl HAP.out HR5.out HL6.out hs5 HL5.out ?_; intro v7 w7 ho7 hg7)
      refine ⟨⟨i + 1, by omega, by go_num, ?_, HG5.out.trans hg7⟩, by simp [intOf]; omega⟩
      rw [HNX.out]
      exact ⟨.inl ho7, fun _ => ho7⟩
    · have hd : decide ((i : Int) < l.length) = false := decide_eq_false (by omega)
      obtain rfl : i = l.length := by omega
      have ho := HF.out.2 hl0
      rw [List.take_length] at ho ⊢
      have HO := Lib.hid ho
      clear ho HF
      go_wp2_with fail
      go_ret
      exact ⟨_, rfl, HO.out, HG.out⟩
end Go.Proofs.YtbcamfbbooggfaaGreat.F

/- Zeros behind a row of bytes; a constant's bytes, marked. -/
set_option linter.unusedVariables false
set_option linter.unusedSimpArgs false
namespace Go.Proofs.YtbcamfbbooggfaaGreat.F
open Go.RowKit Go.Proofs.YtbcamfbbooggfaaGreatW.PrintWords

theorem zeroCells_u8 (k : Nat) : (Builtin.zeroCells #[Value.int .u8 0] k).toList = (List.replicate k 0).map (encN .u8) := by
  apply List.ext_getElem
  · simp [Builtin.zeroCells]
  · intro i h1 h2
    simp [Builtin.zeroCells, encN, Nat.mod_one]
theorem run_append_zeros_own {W : World} {base : Nat} {v : Value} {xs : List Nat} (h : OwnN .u8 5 W base v xs) (hx : 0 < xs.length) (ty : TypeId) (k : Nat) (hl : xs.length + k ≤ 70000000000000) (hbase : base ≤ W.heap.size) :
    ∃ v1 w1, (Builtin.append_ #[25, 3] ty #[v, .int .i64 (k : Nat)]).run Tryz.prog W = .ok v1 w1 ∧ OwnN .u8 5 w1 base v1 (xs ++ List.replicate k 0) ∧ W.grownBy w1 v.ownBlock := by
  obtain ⟨i0, hi0, hz0, hz1, hz2⟩ := info_parts info_u8
  have hu := Tryz.underlying25
  have hn := Tryz.underlying3
  have ho : W.ownsRow base 5 1 v xs.length (xs.map (encN .u8)) := h
  rcases ho.2 with ⟨_, h0⟩ | ⟨g, cap, cur, rfl, hb, hg, hc, hm, hs, ht⟩
  · omega
  have hw : IntKind.i64.wrap (k : Int) = k := by rw [IntKind.wrap_i64]; omega
  have hneg : ¬ ((k : Int) < 0) := by omega
  by_cases hr : xs.length + k ≤ cap
  · have h48 : ¬ (281474976710656 < (k : Int) * (i0.bytes : Int)) := by rw [hz2]; omega
    by_cases hk : k = 0
    · subst hk
      refine ⟨_, W, ?_, by simpa using h, World.grownBy.refl W _⟩
      simp [Builtin.append_, run_underlying hu, run_underlying hn, sizeOf, typeInfo, hi0, asInt, asIntOf, Builtin.lenOf, hc, storeCells, show IntKind.i64.wrap 0 = 0 from by decide]
    · have hst := run_storeCells_at (P := Tryz.prog) g xs.length 5 (Builtin.zeroCells #[Value.int .u8 0] k).toList 0 cur W hg (by simp [Builtin.zeroCells]; omega) (fun u hu => by
        rw [zeroCells_u8] at hu
        simp only [List.mem_map] at hu
        obtain ⟨q, _, rfl⟩ := hu
        rfl)
      have hns : ¬ (k * i0.size = 0) := by rw [hz1]; omega
      have hadd : (⟨g, 0, none⟩ : Addr).add (xs.length * 1) = ⟨g, xs.length, none⟩ := by rw [Addr.add_lit]; simp
      rw [zeroCells_u8] at hst
      have hrow := setRow_heap W g cur ((cur.toList.take (xs.length + 0) ++ (List.replicate k 0).map (encN .u8) ++ cur.toList.drop (xs.length + 0 + ((List.replicate k 0).map (encN .u8)).length)).toArray) 5 (0, 0) hg
      have hgr : W.grownBy (W.setRow g ((cur.toList.take (xs.length + 0) ++ (List.replicate k 0).map (encN .u8) ++ cur.toList.drop (xs.length + 0 + ((List.replicate k 0).map (encN .u8)).length)).toArray)) (some g) := ⟨rfl, rfl, rfl, by simp [World.setRow], fun j hj hne => setRow_other W g j _ (fun e => hne (by rw [e]))⟩
      obtain ⟨W1, hW1⟩ : ∃ W1, W.setRow g ((cur.toList.take (xs.length + 0) ++ (List.replicate k 0).map (encN .u8) ++ cur.toList.drop (xs.length + 0 + ((List.replicate k 0).map (encN .u8)).length)).toArray) = W1 := ⟨_, rfl⟩
      rw [hW1] at hst hrow hgr
      refine ⟨.slice (some ⟨g, 0, none⟩) (xs.length + k) cap, W1, ?_, ?_, hgr⟩
      · have hz : (Builtin.zeroCells (Value.int IntKind.u8 0).cells k).toList = (List.replicate k 0).map (encN .u8) := zeroCells_u8 k
        simp [Builtin.append_, run_underlying hu, run_underlying hn, sizeOf, typeInfo, zeroValue, hi0, hz0, asInt, asIntOf, Builtin.lenOf, hr, hw, hneg, h48, hns, hz1, hk]
        rw [hz] at *
        simp only [Addr.add_lit, Nat.zero_add]
        rw [hst]
        rfl
      · refine ⟨by simp, .inr ⟨g, cap, _, by simp, hb, hrow, by simpa using hr, hm, ?_, ?_⟩⟩
        · simp; omega
        · simp only [Nat.mul_one] at ht ⊢
          simp only [Nat.add_zero]
          rw [ht, List.take_append_of_le_length (by simp), List.take_of_length_le (by simp)]
          simp
  · have hgr := Go.Lib.run_append_grow_zeros (P := Tryz.prog) W 25 3 ty 5 i0 (.int .u8 0) .i64 .i64 hu hn hi0 hz0 (some ⟨g, 0, none⟩) xs.length cap (xs.map (encN .u8))
      (run_firstCells_some (P := Tryz.prog) W.drew i0.size xs.length ⟨g, 0, none⟩ xs.length cap (xs.map (encN .u8)) (by rw [hz1]; simp) (by simpa using ho.cells (g := g) rfl)) k (by omega) (by rw [hz1]; decide) (by omega) (by omega) (by rw [hz2]; omega) (growslice_fits (by omega) (by rw [hz2]; omega))
    have hge := grownCap_ge W (xs.length + k) cap 5
    have hle := grownCap_le_maxLen W (xs.length + k) cap 5 (by unfold maxLen; omega)
    obtain ⟨G, hG⟩ : ∃ G, grownCap W (xs.length + k) cap 5 = G := ⟨_, rfl⟩
    rw [hG] at hgr hge hle
    refine ⟨_, _, hgr, ?_, ?_⟩
    · have hnew := heap_alloc_new W.drew (.cells ((xs.map (encN .u8)).toArray ++ Builtin.zeroCells (Value.int IntKind.u8 0).cells k ++ Builtin.zeroCells (Value.int IntKind.u8 0).cells (G - (xs.length + k))) 5)
      refine ⟨by simp, .inr ⟨W.heap.size, G, _, by simp, hbase, hnew, by simpa using hge, hle, ?_, ?_⟩⟩
      · simp only [Array.size_append, size_zeroCells, show (Value.int IntKind.u8 0).cells.size = 1 from rfl]
        simp
        omega
      · have hz : (Builtin.zeroCells (Value.int IntKind.u8 0).cells k).toList = (List.replicate k 0).map (encN .u8) := zeroCells_u8 k
        simp only [Array.toList_append, hz]
        rw [List.take_append_of_le_length (by simp)]
        rw [List.take_of_length_le (by simp)]
        simp
    · exact ⟨rfl, rfl, rfl, by simp, fun j hj _ => heap_alloc_old W.drew _ hj⟩
section
variable {ops : Array Oper} {rest : List Oper} {o : Oper} {a : Act} {Q : Exit → Act → World → Prop} {K : Act → World → Prop}
theorem append_zeros {W : World} (base : Nat) (hgd : o.guard = none) (s x : Operand)
    (ho : o.op = .call { callee := .builtin .append, args := #[s, x], argTypes := #[25, 3] })
    (v : Value) (xs : List Nat) (k : Nat) (hs : a.eval s = v) (hx : a.eval x = .int .i64 (k : Nat))
    (HO : OwnN .u8 5 W base v xs) (hp : 0 < xs.length) (hbase : base ≤ W.heap.size) (hl : xs.length + k ≤ 70000000000000)
    (h : ∀ v1 w1, OwnN .u8 5 w1 base v1 (xs ++ List.replicate k 0) → W.grownBy w1 v.ownBlock → wpList Tryz.prog ops Q rest (a.put o.dst v1) w1) :
    wpList Tryz.prog ops Q (o :: rest) a W := by
  obtain ⟨v1, w1, hr, h1, h2⟩ := run_append_zeros_own HO hp o.type k hl hbase
  exact Go.Lib.wpList_append_run W hgd s x _ _ ho _ _ hs hx v1 w1 hr (h v1 w1 h1 h2)
end
/-- A constant's row, marked, wherever it lies. -/
theorem run_convert_mark {P : Program} (W : World) (t e : TypeId) (C : Array Value) (g n c : Nat) (ht : P.underlying t = some (.slice e)) (he : P.underlying e = some (.int .u8)) (hg : W.heap[g]? = some (.cells C e (0, 0))) :
    ∃ W', (convert t t (.slice (some ⟨g, 0, none⟩) n c)).run P W = .ok (.slice (some ⟨g, 0, none⟩) n c) W' ∧ W'.heap[g]? = some (.cells C e (C.size, C.size + 1)) ∧ W.grownBy W' (some g) := by
  have hsh : W.shape? g = some (e, C.size) := by
    unfold World.shape?
    rw [hg]
  refine ⟨W.freeze ⟨g, C.size, none⟩ 1, ?_, ?_, ?_⟩
  · simp [convert, run_underlying ht, run_underlying he, markStringish, hsh]
  · unfold World.freeze
    rw [if_neg (by decide)]
    simp [Array.getElem?_modify, hg]
  · unfold World.freeze
    rw [if_neg (by decide)]
    refine ⟨rfl, rfl, rfl, by simp, fun k hk hne => ?_⟩
    have hne' : ¬ g = k := fun e => hne (by rw [e])
    simp [Array.getElem?_modify, hne']
theorem wp_convert_mark {P : Program} {o : Oper} {a : Act} {Q : Exit → Act → World → Prop} {K : Act → World → Prop} {W : World} (t e : TypeId) (x : Operand) (ho : o.op = .convert t t x) (C : Array Value) (g n c : Nat) (ht : P.underlying t = some (.slice e)) (he : P.underlying e = some (.int .u8))
    (hg : W.heap[g]? = some (.cells C e (0, 0))) (hx : a.eval x = .slice (some ⟨g, 0, none⟩) n c)
    (h : ∀ W', W'.heap[g]? = some (.cells C e (C.size, C.size + 1)) → W.grownBy W' (some g) → K (a.put o.dst (.slice (some ⟨g, 0, none⟩) n c)) W') : Oper.wp P o a W K Q := by
  obtain ⟨W', hr, h1, h2⟩ := run_convert_mark W t e C g n c ht he hg
  unfold Oper.wp execOp
  simp only [ho, hx, Sem.run_bind, hr, Result.andThen_ok]
  exact h W' h1 h2
end Go.Proofs.YtbcamfbbooggfaaGreat.F

/- A container's bytes. -/
set_option linter.unusedVariables false
set_option linter.unusedSimpArgs false
namespace Go.Proofs.YtbcamfbbooggfaaGreat.F
open Go.RowKit Go.Proofs.YtbcamfbbooggfaaGreatW.PrintWords
attribute [local go_sem ↓] Go.wp_at_zero Go.wp_at_succ

theorem flatS_get : ∀ (l : List Sl) (i j : Nat) (u : Value), (∀ s ∈ l, s.1.length = 32) → (h : i < l.length) → (slCells l[i])[j]? = some u → (flatS l)[i * 34 + j]? = some u
  | s :: l, 0, j, u, hs, _, hu => by
    rw [show flatS (s :: l) = slCells s ++ flatS l by simp [flatS], Nat.zero_mul, Nat.zero_add, List.getElem?_append_left]
    · exact hu
    · exact (List.getElem?_eq_some_iff.1 hu).1
  | s :: l, i + 1, j, u, hs, h, hu => by
    have h1 := slCells_len (hs s (by simp))
    rw [show flatS (s :: l) = slCells s ++ flatS l by simp [flatS], List.getElem?_append_right (by omega), h1, show (i + 1) * 34 + j - 34 = i * 34 + j by omega]
    exact flatS_get l i j u (fun x hx => hs x (by simp [hx])) (by simpa using h) hu
theorem RV.slot {W : World} {A : Option Addr} {l : List Sl} (h : RV 117 W A l.length (flatS l)) (hs : ∀ s ∈ l, s.1.length = 32) (i : Nat) (hi : i < l.length) : ∃ g o, A = some ⟨g, o, none⟩ ∧ W.rangeAt g (o + i * 34) (slCells l[i]) := by
  obtain ⟨g, o, e, _, hc⟩ := h.2 (by omega)
  refine ⟨g, o, e, fun j u hu => ?_⟩
  rw [Nat.add_assoc]
  exact hc _ u (flatS_get l i j u hs hi hu)
theorem slots_get (L : List (List Nat)) (i : Nat) (h : i < L.length) : ∃ a, (slotsFrom sumN 128 L)[i]'(by rw [slotsFrom_len]; exact h) = (sumN L[i], a, L[i].length) ∧ a = 128 + (L.take i).flatten.length := by
  have h1 := slotsFrom_get sumN 128 L i h
  rw [List.getElem?_eq_getElem (by rw [slotsFrom_len]; exact h)] at h1
  injection h1 with h1
  exact ⟨_, h1, rfl⟩
theorem one_ok (n k : Nat) (h1 : 1 ≤ k) (h2 : k ≤ 4) (h3 : n < 256 ^ k) : ∀ x ∈ [(n, k)], 1 ≤ x.2 ∧ x.2 ≤ 4 ∧ x.1 < 256 ^ x.2 := fun x hx => by
  rw [List.mem_singleton] at hx
  subst hx
  exact ⟨h1, h2, h3⟩
theorem pairs1 (W : World) (n k : Nat) : PairsAt (W.alloc (.cells #[.int .i64 (n : Nat), .int .i64 (k : Nat)] 161)) W.heap.size [(n, k)] := by
  have hg := heap_alloc_new W (.cells #[.int .i64 (n : Nat), .int .i64 (k : Nat)] 161)
  refine ⟨⟨_, _, hg⟩, fun i hi => ?_⟩
  obtain rfl : i = 0 := by simpa using hi
  exact ⟨by rw [cell_of_row _ _ _ _ _ _ hg]; rfl, by rw [cell_of_row _ _ _ _ _ _ hg]; rfl⟩
theorem pairs4 (W : World) (a b c d : Nat) : PairsAt (W.alloc (.cells #[.int .i64 (a : Nat), .int .i64 4, .int .i64 (b : Nat), .int .i64 2, .int .i64 (c : Nat), .int .i64 4, .int .i64 (d : Nat), .int .i64 4] 161)) W.heap.size [(a, 4), (b, 2), (c, 4), (d, 4)] := by
  have hg := heap_alloc_new W (.cells #[.int .i64 (a : Nat), .int .i64 4, .int .i64 (b : Nat), .int .i64 2, .int .i64 (c : Nat), .int .i64 4, .int .i64 (d : Nat), .int .i64 4] 161)
  refine ⟨⟨_, _, hg⟩, fun i hi => ?_⟩
  have hi : i < 4 := hi
  rcases i with _ | _ | _ | _ | i
  · exact ⟨by rw [cell_of_row _ _ _ _ _ _ hg]; rfl, by rw [cell_of_row _ _ _ _ _ _ hg]; rfl⟩
  · exact ⟨by rw [cell_of_row _ _ _ _ _ _ hg]; rfl, by rw [cell_of_row _ _ _ _ _ _ hg]; rfl⟩
  · exact ⟨by rw [cell_of_row _ _ _ _ _ _ hg]; rfl, by rw [cell_of_row _ _ _ _ _ _ hg]; rfl⟩
  · exact ⟨by rw [cell_of_row _ _ _ _ _ _ hg]; rfl, by rw [cell_of_row _ _ _ _ _ _ hg]; rfl⟩
  · omega
theorem PairsAt.mark {W W' : World} {g g0 : Nat} {l : List (Nat × Nat)} {cs0 : Array Value} {z0 : Nat × Nat} (h : PairsAt W g l) (hg : W.grownBy W' (some g0)) (h0 : W.heap[g0]? = some (.cells cs0 5 z0)) : PairsAt W' g l :=
  h.gr (base := 0) ⟨hg.os, hg.tape, hg.output, hg.size, fun k hk hn => hg.block k hk (fun e => by
    injection e with e
    subst e
    rcases hn with hn | ⟨cs, t, z, h4, h5⟩
    · omega
    · rw [h0] at h4
      injection h4 with h4
      injection h4 with _ h6 _
      exact h5 h6.symm)⟩
theorem ap_bin {W : World} {base g : Nat} {z : Nat × Nat} (h : W.heap[g]? = some (.cells #[.int .u8 66, .int .u8 73, .int .u8 78, .int .u8 49] 5 z)) : AP W base (.slice (some ⟨g, 0, none⟩) 4 4) binN :=
  .inr ⟨g, rfl, fun j u hu => by rw [cell_of_row _ _ _ _ _ _ h]; simpa [binN, encN] using hu⟩
/-- A row of the call's own, above a world. -/
def OwnAt (xs : List Nat) (X wx : World) (v : Value) : Prop := OwnN .u8 5 wx X.heap.size v xs ∧ Below X.heap.size X wx
theorem wp_make {P : Program} {o : Oper} {a : Act} {W : World} {K : Act → World → Prop} {Q : Exit → Act → World → Prop} (t : TypeId) (x y : Operand) (ho : o.op = .makeSlice t x y) (m : Int) (hx : a.eval x = .int .i64 m) (hy : a.eval y = .int .i64 m) (v : Value) (w1 : World)
    (hrun : (Instr.makeSlice t (.int .i64 m) (.int .i64 m)).run P W = .ok v w1) (h : K (a.put o.dst v) w1) : Oper.wp P o a W K Q := by
  unfold Oper.wp execOp
  simp only [ho, hx, hy, Sem.run_bind, hrun, Result.andThen_ok]
  exact h
theorem slCells_sum (q : List Nat) (a j : Nat) (h : j < (sumN q).length) : (slCells (sumN q, a, q.length)).toArray[j]? = some (.int .u8 ((sumN q)[j] : Nat)) := by
  unfold slCells
  rw [List.getElem?_toArray, List.getElem?_append_left (by simpa using h)]
  simp [h, encN]
theorem slCells_last (q : List Nat) (a : Nat) : (slCells (sumN q, a, q.length)).toArray[33]? = some (.int .i64 (q.length : Nat)) := by
  unfold slCells
  rw [List.getElem?_toArray, List.getElem?_append_right (by simp [sumN_len])]
  simp [sumN_len]
theorem RN.ofRowAt {W : World} {g : Nat} {cs : Array Value} {t : TypeId} {z : Nat × Nat} {xs : List Nat} (hg : W.heap[g]? = some (.cells cs t z)) (h : ∀ j (hj : j < xs.length), cs[j]? = some (.int .u8 (xs[j] : Nat))) (hm : xs.length ≤ 100000000 := by decide) : RN .u8 W (some ⟨g, 0, none⟩) xs := by
  refine Kd.C_of_reads (d := 0) ⟨rfl, by omega, fun hp => ⟨_, rfl, fun j hj => ?_⟩⟩
  rw [Addr.add_lit, Nat.zero_add, cell_of_row _ _ _ _ _ _ hg, h j hj]
  simp [List.getD_eq_getElem?_getD, hj, encN]
set_option maxRecDepth 20000 in
set_option maxHeartbeats 8000000 in
theorem Bytes_c (b id wide : Nat) (L : List (List Nat)) (w : World) (h : PK sumN w b id wide L) (hid : id < 4096) (hch : Chunks L) :
    Calls Tryz.prog 29 #[.pointer (some ⟨b, 0, none⟩)] w fun e w' => ∃ v, e = .returned v ∧ OwnN .u8 5 w' w.heap.size v (bytesN id L) ∧ Below w.heap.size w w' := by
  have hb := h.lt
  have hfl := hch.flat
  obtain ⟨A0, c0, A2, c2, F, hFF, h1, h2, h3, h4, h5⟩ := h
  have k2 : w.cell? ⟨b, 2, none⟩ = some (.slice A0 L.length c0) := by rw [cell_of_row _ _ _ _ _ _ h1]; rfl
  have hl64 := hch.1
  have H1 := Lib.hid h1
  have H2 := Lib.hid h2
  have H3 := Lib.hid h3
  have HFF := Lib.hid hFF
  have HCH := Lib.hid hch
  have HFL := Lib.hid hfl
  have n0 : (L.length : Int) ≤ 64 := by omega
  clear h1 h2 h3 hFF hch hfl
  go_enter Tryz.func29, Tryz.ntmps29
  go_wp2_with fail
  go_loopw [3, 14] (fun vt vi W => ∃ i : Nat, i ≤ L.length ∧ vi = .int .i64 i ∧ OwnN .u8 5 W w.heap.size vt (tableN (L.take i)) ∧ Below w.heap.size w W) (fun _ vi _ => L.length - (intOf vi).toNat)
  case atStart => exact ⟨0, by omega, rfl, OwnN.nil _ _ _ _, Below.refl _ _⟩
  case round =>
    obtain ⟨i, hi, rfl, ho, hB⟩ := hrel
    obtain ⟨A3, c3, e3, hc3, hr3⟩ := ho.reads
    have hs := hB.size
    subst e3
    have HO := Lib.hid ho
    have HB := Lib.hid hB
    have HR := Lib.hid hr3
    clear ho hB hr3 k2
    by_cases hlt : i < L.length
    · have hd : decide ((i : Int) < L.length) = true := decide_eq_true (by omega)
      have i0 : (0 : Int) ≤ (i : Int) := by omega
      have i1 : (i : Int) < (L.length : Int) := by omega
      have hsl := H2.out.below HB.out
      rw [show L.length = (slotsFrom sumN 128 L).length by rw [slotsFrom_len]] at hsl
      obtain ⟨g, o, e, hrange⟩ := hsl.slot (slots_32 128 L) i (by rw [slotsFrom_len]; exact hlt)
      obtain ⟨a, ha, ha2⟩ := slots_get L i hlt
      rw [ha] at hrange
      subst e
      have hst := tableN_take L i hlt
      have hq := (HCH.out.2 _ (List.getElem_mem hlt))
      obtain ⟨q, hqe⟩ : ∃ q, L[i] = q := ⟨_, rfl⟩
      rw [hqe] at hrange hst hq
      obtain ⟨T, hT⟩ : ∃ T, tableN (L.take i) = T := ⟨_, rfl⟩
      rw [hT] at hst HO HR hc3 ⊢
      have hTl : T.length ≤ 3000 := by rw [← hT, tableN_len, List.length_take]; omega
      have hCl : (slCells (sumN q, a, q.length)).length = 34 := slCells_len (sumN_len q)
      have hC1 := slCells_one (sumN q, a, q.length)
      obtain ⟨Cl, hCl'⟩ : ∃ Cl, slCells (sumN q, a, q.length) = Cl := ⟨_, rfl⟩
      rw [hCl'] at hrange hCl hC1
      have HST := Lib.hid hst
      have HRG := Lib.hid hrange
      have HCL := Lib.hid hCl'
      have HCN := Lib.hid hCl
      have HC1 := Lib.hid (Go.all_oneCell_toArray hC1)
      have hinf : (Tryz.prog.info? 117).map (·.size) = some Cl.length := by rw [hCl]; exact infoS
      have hinf2 : (Tryz.prog.info? 117).map (·.size) = some Cl.toArray.size := by rw [List.size_toArray, hCl]; exact infoS
      have HI := Lib.hid hinf
      have HI2 := Lib.hid hinf2
      have hzs : zeroS.size = Cl.toArray.size := zeroS_size.trans (by rw [List.size_toArray, hCl])
      have HZS := Lib.hid hzs
      have hz := zeroS_eq
      have hgz : (wr.alloc (.cells zeroS 117)).heap[wr.heap.size]? = some (.cells zeroS 117 (0, 0)) := heap_alloc_new _ _
      have HGZ := Lib.hid hgz
      clear hsl hrange ha hst hqe hT hCl hC1 hCl' hinf hinf2 hzs hgz
      go_wp2_with (first
        | (refine wpList_load_mid rfl 117 (.tmp 16) rfl g (o + i * 34) rfl Cl _ HRG.out Tryz.underlying117 (by rfl) HI.out ?_)
        | (refine wpList_store_row rfl 117 (.tmp 5) (.tmp 17) rfl wr.heap.size rfl Cl.toArray zeroS rfl 117 HGZ.out HI2.out HZS.out HC1.out ?_))
      have hgs := setRow_heap _ _ _ Cl.toArray _ _ HGZ.out
      have hbs : Below wr.heap.size wr ((wr.alloc (.cells zeroS 117)).setRow wr.heap.size Cl.toArray) := below_setRow ((Below.refl _ _).alloc (Nat.le_refl _) _) (Nat.le_refl _) _
      have hss : ((wr.alloc (.cells zeroS 117)).setRow wr.heap.size Cl.toArray).heap.size = wr.heap.size + 1 := by simp [World.setRow]
      generalize (wr.alloc (.cells zeroS 117)).setRow wr.heap.size Cl.toArray = ws at hgs hbs hss ⊢
      obtain ⟨gs, hgse⟩ : ∃ gs, wr.heap.size = gs := ⟨_, rfl⟩
      rw [hgse] at hgs hss ⊢
      have hrs : RN .u8 ws (some ⟨gs, 0, none⟩) (sumN q) := RN.ofRowAt hgs (fun j h => by rw [← HCL.out]; exact slCells_sum q a j h) (by rw [sumN_len]; decide)
      have hc33 : ws.cell? ⟨gs, 33, none⟩ = some (.int .i64 (q.length : Nat)) := by
        rw [cell_of_row _ _ _ _ _ _ hgs, ← HCL.out]
        exact slCells_last q a
      have hb1 : Below w.heap.size w ws := HB.out.trans (hbs.mono hs)
      have hs1 := hb1.size
      have hO1 : OwnN .u8 5 ws w.heap.size (.slice A3 T.length c3) T := HO.out.kept hbs
      have hok := one_ok q.length 2 (by decide) (by decide) (by have := hq.2.1; show q.length < 65536; omega)
      have hfx : T ++ sumN q ++ fixN [(q.length, 2)] = T ++ rowN q := by simp [fixN, rowN]
      have hsl := sumN_len q
      have HGS := Lib.hid hgs
      have HRS := Lib.hid hrs
      have HO1 := Lib.hid hO1
      have HB1 := Lib.hid hb1
      have hgs0 := (Array.getElem?_eq_some_iff.1 hgs).1
      clear HO HR HB HRG HCL HI HI2 HZS HGZ hz hrs hO1 hb1 hbs hgs hgse hss
      refine wp_region_late [5] (fun w' => w'.cell? ⟨gs, 33, none⟩ = some (.int .i64 (q.length : Nat))) (by kernel_rfl) hc33 (fun hT => ?_)
      refine WL.take (i := 0) (v := ?_) rfl (by kernel_rfl) (by kernel_rfl) (by kernel_rfl) (by kernel_rfl) (fun _ _ _ h => h) (Or.inl ⟨by rfl, ?_⟩) (by assumption) ?_
      rotate_left 1
      · (intro w' hSw; (try (replace hSw := hSw (by decide); dsimp only at hSw)); go_split_ands; go_simp; try with_reducible rfl)
      simp only [Act.put, List.setIfInBounds_toArray, List.set_cons_zero, List.set_cons_succ]
      refine WL.take (i := 1) (v := ?_) rfl (by kernel_rfl) (by kernel_rfl) (by kernel_rfl) (by kernel_rfl) (fun _ _ _ h => h) (Or.inl ⟨by rfl, ?_⟩) (by assumption) ?_
      rotate_left 1
      · (intro w' hSw; (try (replace hSw := hSw (by decide); dsimp only at hSw)); go_split_ands; go_simp; try with_reducible rfl)
      simp only [Act.put, List.setIfInBounds_toArray, List.set_cons_zero, List.set_cons_succ]
      refine WL.take (i := 2) (v := ?_) rfl (by kernel_rfl) (by kernel_rfl) (by kernel_rfl) (by kernel_rfl) (fun _ _ _ h => h) (Or.inl ⟨by rfl, ?_⟩) (by assumption) ?_
      rotate_left 1
      · (intro w' hSw; (try (replace hSw := hSw (by decide); dsimp only at hSw)); go_split_ands; go_simp; try with_reducible rfl)
      simp only [Act.put, List.setIfInBounds_toArray, List.set_cons_zero, List.set_cons_succ]
      refine WL.take (i := 4) (v := ?_) rfl (by kernel_rfl) (by kernel_rfl) (by kernel_rfl) (by kernel_rfl) (fun _ _ _ h => h) (Or.inl ⟨by rfl, ?_⟩) (by assumption) ?_
      rotate_left 1
      · (intro w' hSw; (try (replace hSw := hSw (by decide); dsimp only at hSw)); go_split_ands; go_simp; try with_reducible rfl)
      simp only [Act.put, List.setIfInBounds_toArray, List.set_cons_zero, List.set_cons_succ]
      refine WL.take (i := 5) (v := ?_) rfl (by kernel_rfl) (by kernel_rfl) (by kernel_rfl) (by kernel_rfl) (fun _ _ _ h => h) (Or.inl ⟨by rfl, ?_⟩) (by assumption) ?_
      rotate_left 1
      · (intro w' hSw; (try (replace hSw := hSw (by decide); dsimp only at hSw)); go_split_ands; go_simp; try with_reducible rfl)
      simp only [Act.put, List.setIfInBounds_toArray, List.set_cons_zero, List.set_cons_succ]
      refine WL.take (i := 6) (v := ?_) rfl (by kernel_rfl) (by kernel_rfl) (by kernel_rfl) (by kernel_rfl) (fun _ _ _ h => h) (Or.inl ⟨by rfl, ?_⟩) (by assumption) ?_
      rotate_left 1
      · (intro w' hSw; (try (replace hSw := hSw (by decide); dsimp only at hSw)); go_split_ands; go_simp; try with_reducible rfl)
      simp only [Act.put, List.setIfInBounds_toArray, List.set_cons_zero, List.set_cons_succ]
      refine WL.two (i := 3) (j := 7) (by kernel_rfl) rfl rfl (fun K hK => ?_) (fun K hK => ?_)
      · have hb5 : Below ws.heap.size ws ws.drew := (Below.refl _ _).drew
        have hs5 := hs1
        rw [if_pos (by rfl)]
        refine wp_append_NN w.heap.size (.tmp 18) (.tmp 20) 25 5 .u8 1 (by rfl) Tryz.underlying25 info_u8 (by decide) _ T (sumN q) (some ⟨gs, 0, none⟩) 32 (by rfl) (by rw [hsl]; rfl) (HO1.out.kept hb5) (HRS.out.below hb5) hs5 (by rw [hsl]; omega) ?_
        intro v7 w7 ho7 hg7 _
        replace hg7 : ws.grownBy w7 (Value.slice A3 T.length c3).ownBlock := ⟨hg7.os, hg7.tape, hg7.output, hg7.size, hg7.block⟩
        have hgu := GrU.ofGrown HO1.out hg7
        have hb7 : Below w.heap.size w w7 := HB1.out.trans (hgu.below hs1)
        have hgs7 := (hgu.block gs hgs0 (.inr ⟨_, _, _, HGS.out, by decide⟩)).trans HGS.out
        have hT7 := (cell_move (a := ⟨gs, 33, none⟩) (hgu.block gs hgs0 (.inr ⟨_, _, _, HGS.out, by decide⟩))).trans hc33
        go_simp
        refine hK.out _ _ (fun _ => hT7) ?_
        clear hK K hb5 hs5
        refine WL.one (i := 7) (by kernel_rfl) rfl (fun K hK => ?_)
        go_simp
        have hbn : Below w7.heap.size w7 (w7.alloc (.cells #[.int .i64 (q.length : Nat), .int .i64 2] 161)) := (Below.refl _ _).alloc (Nat.le_refl _) _
        have ho8 := ho7.kept hbn
        have hp8 : PairsAt (w7.alloc (.cells #[.int .i64 (q.length : Nat), .int .i64 2] 161)) w7.heap.size [(q.length, 2)] := pairs1 w7 q.length 2
        have hb8 := hb7.trans (hbn.mono hb7.size)
        have hs8 := hb8.size
        have hT8 := (hbn.cell (p := ⟨gs, 33, none⟩) (Array.getElem?_eq_some_iff.1 hgs7).1).trans hT7
        refine hK.out _ _ (fun _ => hT8) ?_
        clear hK K hbn hT7 ho7 hg7 hgu hb7 hgs7 hT8
        generalize w7.alloc (.cells #[.int .i64 (q.length : Nat), .int .i64 2] 161) = w8 at ho8 hp8 hb8 hs8 ⊢
        generalize w7.heap.size = gl at hp8 ⊢
        refine WL.late (i := 8) (by kernel_rfl) rfl (by kernel_rfl) (fun K hK => ?_)
        go_simp
        go_at_call 61
        refine (fixed_c w.heap.size _ (T ++ sumN q) gl 1 [(q.length, 2)] _ (.inl ho8) hp8 hs8 (by rw [List.length_append, hsl]; omega) (by simp) (by simp) hok).mono ?_
        rintro e w9 ⟨v9, rfl, ho9, hg9⟩
        rw [hfx] at ho9
        have hb9 := hb8.trans (hg9.below hs8)
        clear ho8 hp8 hs8 hb8 hg9
        go_simp
        refine hK.out _ _ ?_
        clear hK K
        refine WL.late (i := 9) (by kernel_rfl) rfl (by kernel_rfl) (fun K hK => ?_)
        go_simp
        refine hK.out _ _ ?_
        clear hK K
        refine WL.done (by kernel_rfl) ?_ _
        go_wp2_with fail
        exact ⟨⟨i + 1, by omega, by go_num, by rw [HST.out]; exact ho9, hb9⟩, by simp [intOf]; omega⟩
      · go_simp
        have hb5 : Below ws.heap.size ws (ws.alloc (.cells #[.int .i64 (q.length : Nat), .int .i64 2] 161)).drew := ((Below.refl _ _).alloc (Nat.le_refl _) _).drew
        have hp5 : PairsAt (ws.alloc (.cells #[.int .i64 (q.length : Nat), .int .i64 2] 161)).drew ws.heap.size [(q.length, 2)] := pairs1 ws q.length 2
        have hs5 : w.heap.size ≤ (ws.alloc (.cells #[.int .i64 (q.length : Nat), .int .i64 2] 161)).drew.heap.size := Nat.le_trans hs1 hb5.size
        have hT5 := (hb5.cell (p := ⟨gs, 33, none⟩) hgs0).trans hc33
        refine hK.out _ _ (fun _ => hT5) ?_
        clear hK K
        generalize (ws.alloc (.cells #[.int .i64 (q.length : Nat), .int .i64 2] 161)).drew = w5 at hb5 hp5 hs5 hT5 ⊢
        generalize ws.heap.size = gl at hp5 ⊢
        refine WL.one (i := 3) (by kernel_rfl) rfl (fun K hK => ?_)
        rw [if_pos (by rfl)]
        refine wp_append_NN w.heap.size (.tmp 18) (.tmp 20) 25 5 .u8 1 (by rfl) Tryz.underlying25 info_u8 (by decide) _ T (sumN q) (some ⟨gs, 0, none⟩) 32 (by rfl) (by rw [hsl]; rfl) (HO1.out.kept hb5) (HRS.out.below hb5) hs5 (by rw [hsl]; omega) ?_
        intro v7 w7 ho7 hg7 _
        have hgu := GrU.ofGrown (HO1.out.kept hb5) hg7
        have hb7 : Below w.heap.size w w7 := (HB1.out.trans (hb5.mono hs1)).trans (hgu.below hs5)
        have hgs5 := (hb5.block gs hgs0).trans HGS.out
        have hT7 := (cell_move (a := ⟨gs, 33, none⟩) (hgu.block gs (Array.getElem?_eq_some_iff.1 hgs5).1 (.inr ⟨_, _, _, hgs5, by decide⟩))).trans hT5
        have hp8 := hp5.gr hgu
        have ho8 := ho7
        have hb8 := hb7
        have hs8 := hb8.size
        go_simp
        refine hK.out _ _ (fun _ => hT7) ?_
        clear hK K hb5 hp5 hs5 hT5 hgu hb7 hgs5 hT7 ho7 hg7
        refine WL.late (i := 8) (by kernel_rfl) rfl (by kernel_rfl) (fun K hK => ?_)
        go_simp
        go_at_call 61
        refine (fixed_c w.heap.size _ (T ++ sumN q) gl 1 [(q.length, 2)] _ (.inl ho8) hp8 hs8 (by rw [List.length_append, hsl]; omega) (by simp) (by simp) hok).mono ?_
        rintro e w9 ⟨v9, rfl, ho9, hg9⟩
        rw [hfx] at ho9
        have hb9 := hb8.trans (hg9.below hs8)
        clear ho8 hp8 hs8 hb8 hg9
        go_simp
        refine hK.out _ _ ?_
        clear hK K
        refine WL.late (i := 9) (by kernel_rfl) rfl (by kernel_rfl) (fun K hK => ?_)
        go_simp
        refine hK.out _ _ ?_
        clear hK K
        refine WL.done (by kernel_rfl) ?_ _
        go_wp2_with fail
        exact ⟨⟨i + 1, by omega, by go_num, by rw [HST.out]; exact ho9, hb9⟩, by simp [intOf]; omega⟩
    · have hd : decide ((i : Int) < L.length) = false := decide_eq_false (by omega)
      obtain rfl : i = L.length := by omega
      rw [List.take_length] at HO HR hc3 ⊢
      go_wp2_with fail
      obtain ⟨wx, hwx⟩ : ∃ wx, wr = wx := ⟨_, rfl⟩
      rw [hwx] at HO HR HB hs ⊢
      clear hwx hi HR
      have h1x := (HB.out.block b hb).trans H1.out
      have k0 : wx.cell? ⟨b, 0, none⟩ = some (.int .i64 (id : Nat)) := by rw [cell_of_row _ _ _ _ _ _ h1x]; rfl
      have k2 : wx.cell? ⟨b, 2, none⟩ = some (.slice A0 L.length c0) := by rw [cell_of_row _ _ _ _ _ _ h1x]; rfl
      have k3 : wx.cell? ⟨b, 3, none⟩ = some (.slice A2 F.length c2) := by rw [cell_of_row _ _ _ _ _ _ h1x]; rfl
      have hbx : b < wx.heap.size := (Array.getElem?_eq_some_iff.1 h1x).1
      have H1X := Lib.hid h1x
      have HTB := Lib.hid (fun (w' : World) (h : Below wx.heap.size wx w') => (⟨(h.cell (p := ⟨b, 0, none⟩) hbx).trans k0, (h.cell (p := ⟨b, 2, none⟩) hbx).trans k2, (h.cell (p := ⟨b, 3, none⟩) hbx).trans k3⟩ : w'.cell? ⟨b, 0, none⟩ = some (.int .i64 (id : Nat)) ∧ w'.cell? ⟨b, 2, none⟩ = some (.slice A0 L.length c0) ∧ w'.cell? ⟨b, 3, none⟩ = some (.slice A2 F.length c2)))
      have hOx := HO.out
      have HRT := Lib.hid hOx.reads
      have hTl : (tableN L).length ≤ 3000 := by rw [tableN_len]; omega
      have hTb := tableN_lt L
      have hH : binN ++ fixN [(id, 4), (L.length, 2), (F.length, 4), (crcMore 0 (tableN L), 4)] = head18 id L := by unfold head18; rw [HFF.out]; simp [fixN]
      have hcl := crcMore_lt 0 (tableN L)
      have hrx : RN .u8 wx A3 (tableN L) := by
        obtain ⟨A', c', e', _, h'⟩ := hOx.reads
        injection e' with e1 e2 e3
        rw [e1]
        exact h'
      have hcrc := fun (W : World) (hB : Below wx.heap.size wx W) => Crc_c A3 c3 (tableN L) W (hrx.below hB) hTb
      have HRTT := Lib.hid hrx
      obtain ⟨T, hT⟩ : ∃ T, tableN L = T := ⟨_, rfl⟩
      rw [hT] at hH hcl hcrc HO hTl hTb hc3 hOx hrx HRTT ⊢
      obtain ⟨crc, hce⟩ : ∃ crc, crcMore 0 T = crc := ⟨_, rfl⟩
      rw [hce] at hH hcl hcrc
      have hok : ∀ x ∈ [(id, 4), (L.length, 2), (F.length, 4), (crc, 4)], 1 ≤ x.2 ∧ x.2 ≤ 4 ∧ x.1 < 256 ^ x.2 := by
        have e4 : (256 : Nat) ^ 4 = 4294967296 := by decide
        have e2 : (256 : Nat) ^ 2 = 65536 := by decide
        have hF := HFL.out.1
        rw [← HFF.out] at hF
        intro x hx
        simp only [List.mem_cons, List.not_mem_nil, or_false] at hx
        rcases hx with rfl | rfl | rfl | rfl <;> (dsimp only; omega)
      have hcr0 : (0 : Int) ≤ (crc : Int) := by omega
      have hcr1 : (crc : Int) < 4294967296 := by omega
      have hcw : IntKind.i64.wrap (crc : Int) = crc := by rw [IntKind.wrap_i64]; omega
      have HH := Lib.hid hH
      have HCRC := Lib.hid hcrc
      have HTT := Lib.hid hT
      have HCE := Lib.hid hce
      have HOK := Lib.hid hok
      have HOX := Lib.hid hOx
      have HTL := Lib.hid hTl
      have HTBB := Lib.hid hTb
      clear hH hcl hcrc hT hce hok hOx hrx hTl hTb k0 k2 k3 h1x HO
      go_cut [6] from 28 to 52 (fun s6 wy => OwnAt (head18 id L) wx wy s6)
      case first =>
        refine wp_region_late [5, 10, 16] (fun w' => w'.cell? ⟨b, 0, none⟩ = some (.int .i64 (id : Nat)) ∧ w'.cell? ⟨b, 2, none⟩ = some (.slice A0 L.length c0) ∧ w'.cell? ⟨b, 3, none⟩ = some (.slice A2 F.length c2)) (by kernel_rfl) (HTB.out _ ((Below.refl _ _).drew)) (fun hT => ?_)
        have HB' : Below wx.heap.size wx wx.drew := (Below.refl _ _).drew
        have HT' := HTB.out _ HB'
        generalize wx.drew = x0 at HB' HT' hT ⊢
        refine WL.take (i := 2) (v := ?_) rfl (by kernel_rfl) (by kernel_rfl) (by kernel_rfl) (by kernel_rfl) (fun _ _ _ h => h) (Or.inl ⟨by rfl, ?_⟩) (by assumption) ?_
        rotate_left 1
        · (intro w' hSw; (try (replace hSw := hSw (by decide); dsimp only at hSw)); go_split_ands; go_simp; try with_reducible rfl)
        simp only [Act.put, List.getElem_toArray, List.getElem_cons_zero, List.getElem_cons_succ, List.setIfInBounds_toArray, List.set_cons_zero, List.set_cons_succ]
        refine WL.take (i := 3) (v := ?_) rfl (by kernel_rfl) (by kernel_rfl) (by kernel_rfl) (by kernel_rfl) (fun _ _ _ h => h) (Or.inl ⟨by rfl, ?_⟩) (by assumption) ?_
        rotate_left 1
        · (intro w' hSw; (try (replace hSw := hSw (by decide); dsimp only at hSw)); go_split_ands; go_simp; try with_reducible rfl)
        simp only [Act.put, List.getElem_toArray, List.getElem_cons_zero, List.getElem_cons_succ, List.setIfInBounds_toArray, List.set_cons_zero, List.set_cons_succ]
        refine WL.take (i := 4) (v := ?_) rfl (by kernel_rfl) (by kernel_rfl) (by kernel_rfl) (by kernel_rfl) (fun _ _ _ h => h) (Or.inl ⟨by rfl, ?_⟩) (by assumption) ?_
        rotate_left 1
        · (intro w' hSw; (try (replace hSw := hSw (by decide); dsimp only at hSw)); go_split_ands; go_simp; try with_reducible rfl)
        simp only [Act.put, List.getElem_toArray, List.getElem_cons_zero, List.getElem_cons_succ, List.setIfInBounds_toArray, List.set_cons_zero, List.set_cons_succ]
        refine WL.take (i := 5) (v := ?_) rfl (by kernel_rfl) (by kernel_rfl) (by kernel_rfl) (by kernel_rfl) (fun _ _ _ h => h) (Or.inl ⟨by rfl, ?_⟩) (by assumption) ?_
        rotate_left 1
        · (intro w' hSw; (try (replace hSw := hSw (by decide); dsimp only at hSw)); go_split_ands; go_simp; try with_reducible rfl)
        simp only [Act.put, List.getElem_toArray, List.getElem_cons_zero, List.getElem_cons_succ, List.setIfInBounds_toArray, List.set_cons_zero, List.set_cons_succ]
        refine WL.take (i := 6) (v := ?_) rfl (by kernel_rfl) (by kernel_rfl) (by kernel_rfl) (by kernel_rfl) (fun _ _ _ h => h) (Or.inl ⟨by rfl, ?_⟩) (by assumption) ?_
        rotate_left 1
        · (intro w' hSw; (try (replace hSw := hSw (by decide); dsimp only at hSw)); go_split_ands; go_simp; try with_reducible rfl)
        simp only [Act.put, List.getElem_toArray, List.getElem_cons_zero, List.getElem_cons_succ, List.setIfInBounds_toArray, List.set_cons_zero, List.set_cons_succ]
        refine WL.take (i := 7) (v := ?_) rfl (by kernel_rfl) (by kernel_rfl) (by kernel_rfl) (by kernel_rfl) (fun _ _ _ h => h) (Or.inl ⟨by rfl, ?_⟩) (by assumption) ?_
        rotate_left 1
        · (intro w' hSw; (try (replace hSw := hSw (by decide); dsimp only at hSw)); go_split_ands; go_simp; try with_reducible rfl)
        simp only [Act.put, List.getElem_toArray, List.getElem_cons_zero, List.getElem_cons_succ, List.setIfInBounds_toArray, List.set_cons_zero, List.set_cons_succ]
        refine WL.take (i := 8) (v := ?_) rfl (by kernel_rfl) (by kernel_rfl) (by kernel_rfl) (by kernel_rfl) (fun _ _ _ h => h) (Or.inl ⟨by rfl, ?_⟩) (by assumption) ?_
        rotate_left 1
        · (intro w' hSw; (try (replace hSw := hSw (by decide); dsimp only at hSw)); go_split_ands; go_simp; try with_reducible rfl)
        simp only [Act.put, List.getElem_toArray, List.getElem_cons_zero, List.getElem_cons_succ, List.setIfInBounds_toArray, List.set_cons_zero, List.set_cons_succ]
        refine WL.take (i := 9) (v := ?_) rfl (by kernel_rfl) (by kernel_rfl) (by kernel_rfl) (by kernel_rfl) (fun _ _ _ h => h) (Or.inl ⟨by rfl, ?_⟩) (by assumption) ?_
        rotate_left 1
        · (intro w' hSw; (try (replace hSw := hSw (by decide); dsimp only at hSw)); go_split_ands; go_simp; try with_reducible rfl)
        simp only [Act.put, List.getElem_toArray, List.getElem_cons_zero, List.getElem_cons_succ, List.setIfInBounds_toArray, List.set_cons_zero, List.set_cons_succ]
        refine WL.take (i := 10) (v := ?_) rfl (by kernel_rfl) (by kernel_rfl) (by kernel_rfl) (by kernel_rfl) (fun _ _ _ h => h) (Or.inl ⟨by rfl, ?_⟩) (by assumption) ?_
        rotate_left 1
        · (intro w' hSw; (try (replace hSw := hSw (by decide); dsimp only at hSw)); go_split_ands; go_simp; try with_reducible rfl)
        simp only [Act.put, List.getElem_toArray, List.getElem_cons_zero, List.getElem_cons_succ, List.setIfInBounds_toArray, List.set_cons_zero, List.set_cons_succ]
        refine WL.take (i := 11) (v := ?_) rfl (by kernel_rfl) (by kernel_rfl) (by kernel_rfl) (by kernel_rfl) (fun _ _ _ h => h) (Or.inl ⟨by rfl, ?_⟩) (by assumption) ?_
        rotate_left 1
        · (intro w' hSw; (try (replace hSw := hSw (by decide); dsimp only at hSw)); go_split_ands; go_simp; try with_reducible rfl)
        simp only [Act.put, List.getElem_toArray, List.getElem_cons_zero, List.getElem_cons_succ, List.setIfInBounds_toArray, List.set_cons_zero, List.set_cons_succ]
        refine WL.take (i := 12) (v := ?_) rfl (by kernel_rfl) (by kernel_rfl) (by kernel_rfl) (by kernel_rfl) (fun _ _ _ h => h) (Or.inl ⟨by rfl, ?_⟩) (by assumption) ?_
        rotate_left 1
        · (intro w' hSw; (try (replace hSw := hSw (by decide); dsimp only at hSw)); go_split_ands; go_simp; try with_reducible rfl)
        simp only [Act.put, List.getElem_toArray, List.getElem_cons_zero, List.getElem_cons_succ, List.setIfInBounds_toArray, List.set_cons_zero, List.set_cons_succ]
        refine WL.take (i := 13) (v := ?_) rfl (by kernel_rfl) (by kernel_rfl) (by kernel_rfl) (by kernel_rfl) (fun _ _ _ h => h) (Or.inl ⟨by rfl, ?_⟩) (by assumption) ?_
        rotate_left 1
        · (intro w' hSw; (try (replace hSw := hSw (by decide); dsimp only at hSw)); go_split_ands; go_simp; try with_reducible rfl)
        simp only [Act.put, List.getElem_toArray, List.getElem_cons_zero, List.getElem_cons_succ, List.setIfInBounds_toArray, List.set_cons_zero, List.set_cons_succ]
        refine WL.take (i := 14) (v := ?_) rfl (by kernel_rfl) (by kernel_rfl) (by kernel_rfl) (by kernel_rfl) (fun _ _ _ h => h) (Or.inl ⟨by rfl, ?_⟩) (by assumption) ?_
        rotate_left 1
        · (intro w' hSw; (try (replace hSw := hSw (by decide); dsimp only at hSw)); go_split_ands; go_simp; try with_reducible rfl)
        simp only [Act.put, List.getElem_toArray, List.getElem_cons_zero, List.getElem_cons_succ, List.setIfInBounds_toArray, List.set_cons_zero, List.set_cons_succ]
        refine WL.take (i := 15) (v := ?_) rfl (by kernel_rfl) (by kernel_rfl) (by kernel_rfl) (by kernel_rfl) (fun _ _ _ h => h) (Or.inl ⟨by rfl, ?_⟩) (by assumption) ?_
        rotate_left 1
        · (intro w' hSw; (try (replace hSw := hSw (by decide); dsimp only at hSw)); go_split_ands; go_simp; try with_reducible rfl)
        simp only [Act.put, List.getElem_toArray, List.getElem_cons_zero, List.getElem_cons_succ, List.setIfInBounds_toArray, List.set_cons_zero, List.set_cons_succ]
        refine WL.take (i := 16) (v := ?_) rfl (by kernel_rfl) (by kernel_rfl) (by kernel_rfl) (by kernel_rfl) (fun _ _ _ h => h) (Or.inl ⟨by rfl, ?_⟩) (by assumption) ?_
        rotate_left 1
        · (intro w' hSw; (try (replace hSw := hSw (by decide); dsimp only at hSw)); go_split_ands; go_simp; try with_reducible rfl)
        simp only [Act.put, List.getElem_toArray, List.getElem_cons_zero, List.getElem_cons_succ, List.setIfInBounds_toArray, List.set_cons_zero, List.set_cons_succ]
        refine WL.take (i := 17) (v := ?_) rfl (by kernel_rfl) (by kernel_rfl) (by kernel_rfl) (by kernel_rfl) (fun _ _ _ h => h) (Or.inl ⟨by rfl, ?_⟩) (by assumption) ?_
        rotate_left 1
        · (intro w' hSw; (try (replace hSw := hSw (by decide); dsimp only at hSw)); go_split_ands; go_simp; try with_reducible rfl)
        simp only [Act.put, List.getElem_toArray, List.getElem_cons_zero, List.getElem_cons_succ, List.setIfInBounds_toArray, List.set_cons_zero, List.set_cons_succ]
        refine WL.take (i := 18) (v := ?_) rfl (by kernel_rfl) (by kernel_rfl) (by kernel_rfl) (by kernel_rfl) (fun _ _ _ h => h) (Or.inl ⟨by rfl, ?_⟩) (by assumption) ?_
        rotate_left 1
        · (intro w' hSw; (try (replace hSw := hSw (by decide); dsimp only at hSw)); go_split_ands; go_simp; try with_reducible rfl)
        simp only [Act.put, List.getElem_toArray, List.getElem_cons_zero, List.getElem_cons_succ, List.setIfInBounds_toArray, List.set_cons_zero, List.set_cons_succ]
        refine WL.take (i := 19) (v := ?_) rfl (by kernel_rfl) (by kernel_rfl) (by kernel_rfl) (by kernel_rfl) (fun _ _ _ h => h) (Or.inl ⟨by rfl, ?_⟩) (by assumption) ?_
        rotate_left 1
        · (intro w' hSw; (try (replace hSw := hSw (by decide); dsimp only at hSw)); go_split_ands; go_simp; try with_reducible rfl)
        simp only [Act.put, List.getElem_toArray, List.getElem_cons_zero, List.getElem_cons_succ, List.setIfInBounds_toArray, List.set_cons_zero, List.set_cons_succ]
        clear hT
        refine WL.two (i := 0) (j := 20) (by kernel_rfl) rfl rfl (fun K hK => ?_) (fun K hK => ?_)
        · go_simp
          have hb' := HB'.alloc (HB'.size) (.cells #[.int .u8 66, .int .u8 73, .int .u8 78, .int .u8 49] 5)
          have hg := heap_alloc_new x0 (.cells #[.int .u8 66, .int .u8 73, .int .u8 78, .int .u8 49] 5)
          have hge : wx.heap.size ≤ x0.heap.size := HB'.size
          refine hK.out _ _ (fun _ => HTB.out _ hb') ?_
          clear hK K HB' HT'
          generalize x0.alloc (.cells #[.int .u8 66, .int .u8 73, .int .u8 78, .int .u8 49] 5) = x1 at hb' hg ⊢
          generalize x0.heap.size = g0 at hg hge ⊢
          have HB' := hb'
          clear hb'
          have HT' := HTB.out _ HB'
          refine WL.two (i := 1) (j := 20) (by kernel_rfl) rfl rfl (fun K hK => ?_) (fun K hK => ?_)
          · rw [if_pos (by rfl)]
            refine wp_convert_mark 25 5 (.tmp 28) (by rfl) #[.int .u8 66, .int .u8 73, .int .u8 78, .int .u8 49] g0 4 4 Tryz.underlying25 Tryz.underlying5 hg (by rfl) ?_
            intro x2 hg' hgr
            have hb' := HB'.grown hgr HB'.size (fun j ej => by cases ej; exact hge)
            go_simp
            refine hK.out _ _ (fun _ => HTB.out _ hb') ?_
            clear hK K HB' HT' hg hgr
            have hg := hg'
            clear hg'
            have HB' := hb'
            clear hb'
            have HT' := HTB.out _ HB'
            refine WL.one (i := 20) (by kernel_rfl) rfl (fun K hK => ?_)
            go_simp
            go_at_call 62
            refine (HCRC.out x2 HB').mono ?_
            rintro e x3 ⟨rfl, hwe⟩
            subst hwe
            have hb' := HB'
            go_simp
            refine hK.out _ _ (fun h => h) ?_
            clear hK K
            clear HB'
            refine WL.take (i := 21) (v := ?_) rfl (by kernel_rfl) (by kernel_rfl) (by kernel_rfl) (by kernel_rfl) (fun _ _ _ h => h) (Or.inl ⟨by rfl, ?_⟩) (by assumption) ?_
            rotate_left 1
            · (intro w' hSw; (try (replace hSw := hSw (by decide); dsimp only at hSw)); go_split_ands; go_simp; try with_reducible rfl)
            simp only [Act.put, List.getElem_toArray, List.getElem_cons_zero, List.getElem_cons_succ, List.setIfInBounds_toArray, List.set_cons_zero, List.set_cons_succ]
            refine WL.take (i := 22) (v := ?_) rfl (by kernel_rfl) (by kernel_rfl) (by kernel_rfl) (by kernel_rfl) (fun _ _ _ h => h) (Or.inl ⟨by rfl, ?_⟩) (by assumption) ?_
            rotate_left 1
            · (intro w' hSw; (try (replace hSw := hSw (by decide); dsimp only at hSw)); go_split_ands; go_simp; try with_reducible rfl)
            simp only [Act.put, List.getElem_toArray, List.getElem_cons_zero, List.getElem_cons_succ, List.setIfInBounds_toArray, List.set_cons_zero, List.set_cons_succ]
            have HB' := hb'
            clear hb'
            refine WL.one (i := 23) (by kernel_rfl) rfl (fun K hK => ?_)
            go_simp
            have hb' := HB'.alloc (HB'.size) (.cells #[.int .i64 (id : Nat), .int .i64 4, .int .i64 (L.length : Nat), .int .i64 2, .int .i64 (F.length : Nat), .int .i64 4, .int .i64 (crc : Nat), .int .i64 4] 161)
            have hp : PairsAt (x3.alloc (.cells #[.int .i64 (id : Nat), .int .i64 4, .int .i64 (L.length : Nat), .int .i64 2, .int .i64 (F.length : Nat), .int .i64 4, .int .i64 (crc : Nat), .int .i64 4] 161)) x3.heap.size [(id, 4), (L.length, 2), (F.length, 4), (crc, 4)] := pairs4 x3 id L.length F.length crc
            replace hg := (heap_alloc_old x3 (.cells #[.int .i64 (id : Nat), .int .i64 4, .int .i64 (L.length : Nat), .int .i64 2, .int .i64 (F.length : Nat), .int .i64 4, .int .i64 (crc : Nat), .int .i64 4] 161) (Array.getElem?_eq_some_iff.1 hg).1).trans hg
            refine hK.out _ _ (fun _ => HTB.out _ hb') ?_
            clear hK K HB' HT'
            generalize x3.alloc (.cells #[.int .i64 (id : Nat), .int .i64 4, .int .i64 (L.length : Nat), .int .i64 2, .int .i64 (F.length : Nat), .int .i64 4, .int .i64 (crc : Nat), .int .i64 4] 161) = x4 at hb' hp hg ⊢
            generalize x3.heap.size = gl at hp ⊢
            have HB' := hb'
            clear hb'
            have HT' := HTB.out _ HB'
            refine WL.late (i := 24) (by kernel_rfl) rfl (by kernel_rfl) (fun K hK => ?_)
            go_simp
            go_at_call 61
            refine (fixed_c wx.heap.size _ binN gl 4 [(id, 4), (L.length, 2), (F.length, 4), (crc, 4)] x4 (ap_bin hg) hp HB'.size (by decide) (by simp) (by simp) HOK.out).mono ?_
            rintro e y9 ⟨v9, rfl, ho9, hg9⟩
            rw [HH.out] at ho9
            have hb9 := HB'.trans (hg9.below HB'.size)
            clear HB' HT' hg hp hg9
            go_simp
            refine hK.out _ _ ?_
            clear hK K
            refine WL.late (i := 25) (by kernel_rfl) rfl (by kernel_rfl) (fun K hK => ?_)
            go_simp
            refine hK.out _ _ ?_
            clear hK K
            refine WL.done (by kernel_rfl) ?_ _
            go_wp2_with fail
            go_meet
            exact ⟨ho9, hb9⟩
          · go_simp
            go_at_call 62
            refine (HCRC.out x1 HB').mono ?_
            rintro e x5 ⟨rfl, hwe⟩
            subst hwe
            have hb' := HB'
            go_simp
            refine hK.out _ _ (fun h => h) ?_
            clear hK K
            clear HB'
            refine WL.take (i := 21) (v := ?_) rfl (by kernel_rfl) (by kernel_rfl) (by kernel_rfl) (by kernel_rfl) (fun _ _ _ h => h) (Or.inl ⟨by rfl, ?_⟩) (by assumption) ?_
            rotate_left 1
            · (intro w' hSw; (try (replace hSw := hSw (by decide); dsimp only at hSw)); go_split_ands; go_simp; try with_reducible rfl)
            simp only [Act.put, List.getElem_toArray, List.getElem_cons_zero, List.getElem_cons_succ, List.setIfInBounds_toArray, List.set_cons_zero, List.set_cons_succ]
            refine WL.take (i := 22) (v := ?_) rfl (by kernel_rfl) (by kernel_rfl) (by kernel_rfl) (by kernel_rfl) (fun _ _ _ h => h) (Or.inl ⟨by rfl, ?_⟩) (by assumption) ?_
            rotate_left 1
            · (intro w' hSw; (try (replace hSw := hSw (by decide); dsimp only at hSw)); go_split_ands; go_simp; try with_reducible rfl)
            simp only [Act.put, List.getElem_toArray, List.getElem_cons_zero, List.getElem_cons_succ, List.setIfInBounds_toArray, List.set_cons_zero, List.set_cons_succ]
            have HB' := hb'
            clear hb'
            refine WL.two (i := 1) (j := 23) (by kernel_rfl) rfl rfl (fun K hK => ?_) (fun K hK => ?_)
            · rw [if_pos (by rfl)]
              refine wp_convert_mark 25 5 (.tmp 28) (by rfl) #[.int .u8 66, .int .u8 73, .int .u8 78, .int .u8 49] g0 4 4 Tryz.underlying25 Tryz.underlying5 hg (by rfl) ?_
              intro x6 hg' hgr
              have hb' := HB'.grown hgr HB'.size (fun j ej => by cases ej; exact hge)
              go_simp
              refine hK.out _ _ (fun _ => HTB.out _ hb') ?_
              clear hK K HB' HT' hg hgr
              have hg := hg'
              clear hg'
              have HB' := hb'
              clear hb'
              have HT' := HTB.out _ HB'
              refine WL.one (i := 23) (by kernel_rfl) rfl (fun K hK => ?_)
              go_simp
              have hb' := HB'.alloc (HB'.size) (.cells #[.int .i64 (id : Nat), .int .i64 4, .int .i64 (L.length : Nat), .int .i64 2, .int .i64 (F.length : Nat), .int .i64 4, .int .i64 (crc : Nat), .int .i64 4] 161)
              have hp : PairsAt (x6.alloc (.cells #[.int .i64 (id : Nat), .int .i64 4, .int .i64 (L.length : Nat), .int .i64 2, .int .i64 (F.length : Nat), .int .i64 4, .int .i64 (crc : Nat), .int .i64 4] 161)) x6.heap.size [(id, 4), (L.length, 2), (F.length, 4), (crc, 4)] := pairs4 x6 id L.length F.length crc
              replace hg := (heap_alloc_old x6 (.cells #[.int .i64 (id : Nat), .int .i64 4, .int .i64 (L.length : Nat), .int .i64 2, .int .i64 (F.length : Nat), .int .i64 4, .int .i64 (crc : Nat), .int .i64 4] 161) (Array.getElem?_eq_some_iff.1 hg).1).trans hg
              refine hK.out _ _ (fun _ => HTB.out _ hb') ?_
              clear hK K HB' HT'
              generalize x6.alloc (.cells #[.int .i64 (id : Nat), .int .i64 4, .int .i64 (L.length : Nat), .int .i64 2, .int .i64 (F.length : Nat), .int .i64 4, .int .i64 (crc : Nat), .int .i64 4] 161) = x7 at hb' hp hg ⊢
              generalize x6.heap.size = gl at hp ⊢
              have HB' := hb'
              clear hb'
              have HT' := HTB.out _ HB'
              refine WL.late (i := 24) (by kernel_rfl) rfl (by kernel_rfl) (fun K hK => ?_)
              go_simp
              go_at_call 61
              refine (fixed_c wx.heap.size _ binN gl 4 [(id, 4), (L.length, 2), (F.length, 4), (crc, 4)] x7 (ap_bin hg) hp HB'.size (by decide) (by simp) (by simp) HOK.out).mono ?_
              rintro e y9 ⟨v9, rfl, ho9, hg9⟩
              rw [HH.out] at ho9
              have hb9 := HB'.trans (hg9.below HB'.size)
              clear HB' HT' hg hp hg9
              go_simp
              refine hK.out _ _ ?_
              clear hK K
              refine WL.late (i := 25) (by kernel_rfl) rfl (by kernel_rfl) (fun K hK => ?_)
              go_simp
              refine hK.out _ _ ?_
              clear hK K
              refine WL.done (by kernel_rfl) ?_ _
              go_wp2_with fail
              go_meet
              exact ⟨ho9, hb9⟩
            · go_simp
              have hb' := HB'.alloc (HB'.size) (.cells #[.int .i64 (id : Nat), .int .i64 4, .int .i64 (L.length : Nat), .int .i64 2, .int .i64 (F.length : Nat), .int .i64 4, .int .i64 (crc : Nat), .int .i64 4] 161)
              have hp : PairsAt (x5.alloc (.cells #[.int .i64 (id : Nat), .int .i64 4, .int .i64 (L.length : Nat), .int .i64 2, .int .i64 (F.length : Nat), .int .i64 4, .int .i64 (crc : Nat), .int .i64 4] 161)) x5.heap.size [(id, 4), (L.length, 2), (F.length, 4), (crc, 4)] := pairs4 x5 id L.length F.length crc
              replace hg := (heap_alloc_old x5 (.cells #[.int .i64 (id : Nat), .int .i64 4, .int .i64 (L.length : Nat), .int .i64 2, .int .i64 (F.length : Nat), .int .i64 4, .int .i64 (crc : Nat), .int .i64 4] 161) (Array.getElem?_eq_some_iff.1 hg).1).trans hg
              refine hK.out _ _ (fun _ => HTB.out _ hb') ?_
              clear hK K HB' HT'
              generalize x5.alloc (.cells #[.int .i64 (id : Nat), .int .i64 4, .int .i64 (L.length : Nat), .int .i64 2, .int .i64 (F.length : Nat), .int .i64 4, .int .i64 (crc : Nat), .int .i64 4] 161) = x8 at hb' hp hg ⊢
              generalize x5.heap.size = gl at hp ⊢
              have HB' := hb'
              clear hb'
              have HT' := HTB.out _ HB'
              refine WL.one (i := 1) (by kernel_rfl) rfl (fun K hK => ?_)
              rw [if_pos (by rfl)]
              refine wp_convert_mark 25 5 (.tmp 28) (by rfl) #[.int .u8 66, .int .u8 73, .int .u8 78, .int .u8 49] g0 4 4 Tryz.underlying25 Tryz.underlying5 hg (by rfl) ?_
              intro x9 hg' hgr
              have hb' := HB'.grown hgr HB'.size (fun j ej => by cases ej; exact hge)
              replace hp := hp.mark hgr hg
              go_simp
              refine hK.out _ _ (fun _ => HTB.out _ hb') ?_
              clear hK K HB' HT' hg hgr
              have hg := hg'
              clear hg'
              have HB' := hb'
              clear hb'
              have HT' := HTB.out _ HB'
              refine WL.late (i := 24) (by kernel_rfl) rfl (by kernel_rfl) (fun K hK => ?_)
              go_simp
              go_at_call 61
              refine (fixed_c wx.heap.size _ binN gl 4 [(id, 4), (L.length, 2), (F.length, 4), (crc, 4)] x9 (ap_bin hg) hp HB'.size (by decide) (by simp) (by simp) HOK.out).mono ?_
              rintro e y9 ⟨v9, rfl, ho9, hg9⟩
              rw [HH.out] at ho9
              have hb9 := HB'.trans (hg9.below HB'.size)
              clear HB' HT' hg hp hg9
              go_simp
              refine hK.out _ _ ?_
              clear hK K
              refine WL.late (i := 25) (by kernel_rfl) rfl (by kernel_rfl) (fun K hK => ?_)
              go_simp
              refine hK.out _ _ ?_
              clear hK K
              refine WL.done (by kernel_rfl) ?_ _
              go_wp2_with fail
              go_meet
              exact ⟨ho9, hb9⟩
        · go_simp
          go_at_call 62
          refine (HCRC.out x0 HB').mono ?_
          rintro e x10 ⟨rfl, hwe⟩
          subst hwe
          have hb' := HB'
          go_simp
          refine hK.out _ _ (fun h => h) ?_
          clear hK K
          clear HB'
          refine WL.take (i := 21) (v := ?_) rfl (by kernel_rfl) (by kernel_rfl) (by kernel_rfl) (by kernel_rfl) (fun _ _ _ h => h) (Or.inl ⟨by rfl, ?_⟩) (by assumption) ?_
          rotate_left 1
          · (intro w' hSw; (try (replace hSw := hSw (by decide); dsimp only at hSw)); go_split_ands; go_simp; try with_reducible rfl)
          simp only [Act.put, List.getElem_toArray, List.getElem_cons_zero, List.getElem_cons_succ, List.setIfInBounds_toArray, List.set_cons_zero, List.set_cons_succ]
          refine WL.take (i := 22) (v := ?_) rfl (by kernel_rfl) (by kernel_rfl) (by kernel_rfl) (by kernel_rfl) (fun _ _ _ h => h) (Or.inl ⟨by rfl, ?_⟩) (by assumption) ?_
          rotate_left 1
          · (intro w' hSw; (try (replace hSw := hSw (by decide); dsimp only at hSw)); go_split_ands; go_simp; try with_reducible rfl)
          simp only [Act.put, List.getElem_toArray, List.getElem_cons_zero, List.getElem_cons_succ, List.setIfInBounds_toArray, List.set_cons_zero, List.set_cons_succ]
          have HB' := hb'
          clear hb'
          refine WL.two (i := 0) (j := 23) (by kernel_rfl) rfl rfl (fun K hK => ?_) (fun K hK => ?_)
          · go_simp
            have hb' := HB'.alloc (HB'.size) (.cells #[.int .u8 66, .int .u8 73, .int .u8 78, .int .u8 49] 5)
            have hg := heap_alloc_new x10 (.cells #[.int .u8 66, .int .u8 73, .int .u8 78, .int .u8 49] 5)
            have hge : wx.heap.size ≤ x10.heap.size := HB'.size
            refine hK.out _ _ (fun _ => HTB.out _ hb') ?_
            clear hK K HB' HT'
            generalize x10.alloc (.cells #[.int .u8 66, .int .u8 73, .int .u8 78, .int .u8 49] 5) = x11 at hb' hg ⊢
            generalize x10.heap.size = g0 at hg hge ⊢
            have HB' := hb'
            clear hb'
            have HT' := HTB.out _ HB'
            refine WL.two (i := 1) (j := 23) (by kernel_rfl) rfl rfl (fun K hK => ?_) (fun K hK => ?_)
            · rw [if_pos (by rfl)]
              refine wp_convert_mark 25 5 (.tmp 28) (by rfl) #[.int .u8 66, .int .u8 73, .int .u8 78, .int .u8 49] g0 4 4 Tryz.underlying25 Tryz.underlying5 hg (by rfl) ?_
              intro x12 hg' hgr
              have hb' := HB'.grown hgr HB'.size (fun j ej => by cases ej; exact hge)
              go_simp
              refine hK.out _ _ (fun _ => HTB.out _ hb') ?_
              clear hK K HB' HT' hg hgr
              have hg := hg'
              clear hg'
              have HB' := hb'
              clear hb'
              have HT' := HTB.out _ HB'
              refine WL.one (i := 23) (by kernel_rfl) rfl (fun K hK => ?_)
              go_simp
              have hb' := HB'.alloc (HB'.size) (.cells #[.int .i64 (id : Nat), .int .i64 4, .int .i64 (L.length : Nat), .int .i64 2, .int .i64 (F.length : Nat), .int .i64 4, .int .i64 (crc : Nat), .int .i64 4] 161)
              have hp : PairsAt (x12.alloc (.cells #[.int .i64 (id : Nat), .int .i64 4, .int .i64 (L.length : Nat), .int .i64 2, .int .i64 (F.length : Nat), .int .i64 4, .int .i64 (crc : Nat), .int .i64 4] 161)) x12.heap.size [(id, 4), (L.length, 2), (F.length, 4), (crc, 4)] := pairs4 x12 id L.length F.length crc
              replace hg := (heap_alloc_old x12 (.cells #[.int .i64 (id : Nat), .int .i64 4, .int .i64 (L.length : Nat), .int .i64 2, .int .i64 (F.length : Nat), .int .i64 4, .int .i64 (crc : Nat), .int .i64 4] 161) (Array.getElem?_eq_some_iff.1 hg).1).trans hg
              refine hK.out _ _ (fun _ => HTB.out _ hb') ?_
              clear hK K HB' HT'
              generalize x12.alloc (.cells #[.int .i64 (id : Nat), .int .i64 4, .int .i64 (L.length : Nat), .int .i64 2, .int .i64 (F.length : Nat), .int .i64 4, .int .i64 (crc : Nat), .int .i64 4] 161) = x13 at hb' hp hg ⊢
              generalize x12.heap.size = gl at hp ⊢
              have HB' := hb'
              clear hb'
              have HT' := HTB.out _ HB'
              refine WL.late (i := 24) (by kernel_rfl) rfl (by kernel_rfl) (fun K hK => ?_)
              go_simp
              go_at_call 61
              refine (fixed_c wx.heap.size _ binN gl 4 [(id, 4), (L.length, 2), (F.length, 4), (crc, 4)] x13 (ap_bin hg) hp HB'.size (by decide) (by simp) (by simp) HOK.out).mono ?_
              rintro e y9 ⟨v9, rfl, ho9, hg9⟩
              rw [HH.out] at ho9
              have hb9 := HB'.trans (hg9.below HB'.size)
              clear HB' HT' hg hp hg9
              go_simp
              refine hK.out _ _ ?_
              clear hK K
              refine WL.late (i := 25) (by kernel_rfl) rfl (by kernel_rfl) (fun K hK => ?_)
              go_simp
              refine hK.out _ _ ?_
              clear hK K
              refine WL.done (by kernel_rfl) ?_ _
              go_wp2_with fail
              go_meet
              exact ⟨ho9, hb9⟩
            · go_simp
              have hb' := HB'.alloc (HB'.size) (.cells #[.int .i64 (id : Nat), .int .i64 4, .int .i64 (L.length : Nat), .int .i64 2, .int .i64 (F.length : Nat), .int .i64 4, .int .i64 (crc : Nat), .int .i64 4] 161)
              have hp : PairsAt (x11.alloc (.cells #[.int .i64 (id : Nat), .int .i64 4, .int .i64 (L.length : Nat), .int .i64 2, .int .i64 (F.length : Nat), .int .i64 4, .int .i64 (crc : Nat), .int .i64 4] 161)) x11.heap.size [(id, 4), (L.length, 2), (F.length, 4), (crc, 4)] := pairs4 x11 id L.length F.length crc
              replace hg := (heap_alloc_old x11 (.cells #[.int .i64 (id : Nat), .int .i64 4, .int .i64 (L.length : Nat), .int .i64 2, .int .i64 (F.length : Nat), .int .i64 4, .int .i64 (crc : Nat), .int .i64 4] 161) (Array.getElem?_eq_some_iff.1 hg).1).trans hg
              refine hK.out _ _ (fun _ => HTB.out _ hb') ?_
              clear hK K HB' HT'
              generalize x11.alloc (.cells #[.int .i64 (id : Nat), .int .i64 4, .int .i64 (L.length : Nat), .int .i64 2, .int .i64 (F.length : Nat), .int .i64 4, .int .i64 (crc : Nat), .int .i64 4] 161) = x14 at hb' hp hg ⊢
              generalize x11.heap.size = gl at hp ⊢
              have HB' := hb'
              clear hb'
              have HT' := HTB.out _ HB'
              refine WL.one (i := 1) (by kernel_rfl) rfl (fun K hK => ?_)
              rw [if_pos (by rfl)]
              refine wp_convert_mark 25 5 (.tmp 28) (by rfl) #[.int .u8 66, .int .u8 73, .int .u8 78, .int .u8 49] g0 4 4 Tryz.underlying25 Tryz.underlying5 hg (by rfl) ?_
              intro x15 hg' hgr
              have hb' := HB'.grown hgr HB'.size (fun j ej => by cases ej; exact hge)
              replace hp := hp.mark hgr hg
              go_simp
              refine hK.out _ _ (fun _ => HTB.out _ hb') ?_
              clear hK K HB' HT' hg hgr
              have hg := hg'
              clear hg'
              have HB' := hb'
              clear hb'
              have HT' := HTB.out _ HB'
              refine WL.late (i := 24) (by kernel_rfl) rfl (by kernel_rfl) (fun K hK => ?_)
              go_simp
              go_at_call 61
              refine (fixed_c wx.heap.size _ binN gl 4 [(id, 4), (L.length, 2), (F.length, 4), (crc, 4)] x15 (ap_bin hg) hp HB'.size (by decide) (by simp) (by simp) HOK.out).mono ?_
              rintro e y9 ⟨v9, rfl, ho9, hg9⟩
              rw [HH.out] at ho9
              have hb9 := HB'.trans (hg9.below HB'.size)
              clear HB' HT' hg hp hg9
              go_simp
              refine hK.out _ _ ?_
              clear hK K
              refine WL.late (i := 25) (by kernel_rfl) rfl (by kernel_rfl) (fun K hK => ?_)
              go_simp
              refine hK.out _ _ ?_
              clear hK K
              refine WL.done (by kernel_rfl) ?_ _
              go_wp2_with fail
              go_meet
              exact ⟨ho9, hb9⟩
          · go_simp
            have hb' := HB'.alloc (HB'.size) (.cells #[.int .i64 (id : Nat), .int .i64 4, .int .i64 (L.length : Nat), .int .i64 2, .int .i64 (F.length : Nat), .int .i64 4, .int .i64 (crc : Nat), .int .i64 4] 161)
            have hp : PairsAt (x10.alloc (.cells #[.int .i64 (id : Nat), .int .i64 4, .int .i64 (L.length : Nat), .int .i64 2, .int .i64 (F.length : Nat), .int .i64 4, .int .i64 (crc : Nat), .int .i64 4] 161)) x10.heap.size [(id, 4), (L.length, 2), (F.length, 4), (crc, 4)] := pairs4 x10 id L.length F.length crc
            refine hK.out _ _ (fun _ => HTB.out _ hb') ?_
            clear hK K HB' HT'
            generalize x10.alloc (.cells #[.int .i64 (id : Nat), .int .i64 4, .int .i64 (L.length : Nat), .int .i64 2, .int .i64 (F.length : Nat), .int .i64 4, .int .i64 (crc : Nat), .int .i64 4] 161) = x16 at hb' hp ⊢
            generalize x10.heap.size = gl at hp ⊢
            have HB' := hb'
            clear hb'
            have HT' := HTB.out _ HB'
            refine WL.one (i := 0) (by kernel_rfl) rfl (fun K hK => ?_)
            go_simp
            have hb' := HB'.alloc (HB'.size) (.cells #[.int .u8 66, .int .u8 73, .int .u8 78, .int .u8 49] 5)
            have hg := heap_alloc_new x16 (.cells #[.int .u8 66, .int .u8 73, .int .u8 78, .int .u8 49] 5)
            have hge : wx.heap.size ≤ x16.heap.size := HB'.size
            replace hp := hp.gr (GrU.ofBelow (base := 0) ((Below.refl x16.heap.size x16).alloc (Nat.le_refl _) (.cells #[.int .u8 66, .int .u8 73, .int .u8 78, .int .u8 49] 5)))
            refine hK.out _ _ (fun _ => HTB.out _ hb') ?_
            clear hK K HB' HT'
            generalize x16.alloc (.cells #[.int .u8 66, .int .u8 73, .int .u8 78, .int .u8 49] 5) = x17 at hb' hg hp ⊢
            generalize x16.heap.size = g0 at hg hge ⊢
            have HB' := hb'
            clear hb'
            have HT' := HTB.out _ HB'
            refine WL.one (i := 1) (by kernel_rfl) rfl (fun K hK => ?_)
            rw [if_pos (by rfl)]
            refine wp_convert_mark 25 5 (.tmp 28) (by rfl) #[.int .u8 66, .int .u8 73, .int .u8 78, .int .u8 49] g0 4 4 Tryz.underlying25 Tryz.underlying5 hg (by rfl) ?_
            intro x18 hg' hgr
            have hb' := HB'.grown hgr HB'.size (fun j ej => by cases ej; exact hge)
            replace hp := hp.mark hgr hg
            go_simp
            refine hK.out _ _ (fun _ => HTB.out _ hb') ?_
            clear hK K HB' HT' hg hgr
            have hg := hg'
            clear hg'
            have HB' := hb'
            clear hb'
            have HT' := HTB.out _ HB'
            refine WL.late (i := 24) (by kernel_rfl) rfl (by kernel_rfl) (fun K hK => ?_)
            go_simp
            go_at_call 61
            refine (fixed_c wx.heap.size _ binN gl 4 [(id, 4), (L.length, 2), (F.length, 4), (crc, 4)] x18 (ap_bin hg) hp HB'.size (by decide) (by simp) (by simp) HOK.out).mono ?_
            rintro e y9 ⟨v9, rfl, ho9, hg9⟩
            rw [HH.out] at ho9
            have hb9 := HB'.trans (hg9.below HB'.size)
            clear HB' HT' hg hp hg9
            go_simp
            refine hK.out _ _ ?_
            clear hK K
            refine WL.late (i := 25) (by kernel_rfl) rfl (by kernel_rfl) (fun K hK => ?_)
            go_simp
            refine hK.out _ _ ?_
            clear hK K
            refine WL.done (by kernel_rfl) ?_ _
            go_wp2_with fail
            go_meet
            exact ⟨ho9, hb9⟩
      case rest =>
        obtain ⟨ho6, hb6⟩ := hcut
        obtain ⟨A6, c6, e6, hc6, hr6⟩ := ho6.reads
        subst e6
        have hHl := head18_len id L
        have hHb := head18_lt id L
        have h22 : head18 id L ++ fixN [(crcMore 0 (head18 id L), 4)] = head22 id L := by simp [fixN, head22]
        have hcl2 := crcMore_lt 0 (head18 id L)
        obtain ⟨H, hHe⟩ : ∃ H, head18 id L = H := ⟨_, rfl⟩
        rw [hHe] at ho6 hc6 hr6 hHl hHb h22 hcl2 ⊢
        obtain ⟨crc2, hc2e⟩ : ∃ crc2, crcMore 0 H = crc2 := ⟨_, rfl⟩
        rw [hc2e] at h22 hcl2
        have hk0 : (0 : Int) ≤ (crc2 : Int) := by omega
        have hk1 : (crc2 : Int) < 4294967296 := by omega
        have hkw : IntKind.i64.wrap (crc2 : Int) = crc2 := by rw [IntKind.wrap_i64]; omega
        have hok2 := one_ok crc2 4 (by decide) (by decide) (by show crc2 < 4294967296; omega)
        have hs6 := hb6.size
        have HO6 := Lib.hid ho6
        have HB6 := Lib.hid hb6
        have HR6 := Lib.hid hr6
        have HHL := Lib.hid hHl
        have HHB := Lib.hid hHb
        have H22 := Lib.hid h22
        have HC2E := Lib.hid hc2e
        have HOK2 := Lib.hid hok2
        clear ho6 hb6 hr6 hHl hHb h22 hcl2 hc2e hok2 hHe
        go_wp2_with fail
        refine (Crc_c A6 c6 H _ HR6.out HHB.out).mono ?_
        rintro e w7 ⟨rfl, hwe⟩
        subst hwe
        rw [HC2E.out]
        go_wp2_with fail
        have hbn : Below w7.heap.size w7 (w7.alloc (.cells #[.int .i64 (crc2 : Nat), .int .i64 4] 161)) := (Below.refl _ _).alloc (Nat.le_refl _) _
        have ho8 : AP (w7.alloc (.cells #[.int .i64 (crc2 : Nat), .int .i64 4] 161)) wx.heap.size (.slice A6 H.length c6) H := .inl (HO6.out.kept hbn)
        have hp8 : PairsAt (w7.alloc (.cells #[.int .i64 (crc2 : Nat), .int .i64 4] 161)) w7.heap.size [(crc2, 4)] := pairs1 w7 crc2 4
        refine (fixed_c wx.heap.size _ H w7.heap.size 1 [(crc2, 4)] _ ho8 hp8 (by simp; omega) (by rw [HHL.out]; decide) (by simp) (by simp) HOK2.out).mono ?_
        rintro e w9 ⟨v9, rfl, ho9, hg9⟩
        rw [H22.out] at ho9
        have hb9 := (HB6.out.trans (hbn.mono hs6)).trans (hg9.below (by simp; omega))
        obtain ⟨A9, c9, e9, hc9, hr9⟩ := ho9.reads
        subst e9
        have hl9 := head22_len id L
        obtain ⟨H2, hH2e⟩ : ∃ H2, head22 id L = H2 := ⟨_, rfl⟩
        rw [hH2e] at ho9 hc9 hr9 hl9 ⊢
        have HO9 := Lib.hid ho9
        have HB9 := Lib.hid hb9
        have HR9 := Lib.hid hr9
        have HL9 := Lib.hid hl9
        have HH2E := Lib.hid hH2e
        have hT9 := HTB.out _ hb9
        have hs9 := hb9.size
        clear ho8 hp8 hbn ho9 hg9 hb9 hr9 hH2e HO6 HB6 HR6 HHL HHB H22 HC2E HOK2 hk0 hk1 hkw hs6 hc6
        rw [hl9]
        clear hl9
        go_wp2_with fail
        have hmk : ∀ W : World, (Instr.makeSlice 25 (.int .i64 106) (.int .i64 106)).run Tryz.prog W = .ok (.slice (some ⟨W.heap.size, 0, none⟩) 106 106) (W.alloc (.cells (madeCells #[.int .u8 0] 106) 5)) := print_make 25 5 .u8 1 Tryz.underlying25 info_u8 (by decide) 106 (by omega)
        obtain ⟨MC, hMC⟩ : ∃ MC, madeCells #[.int .u8 0] 106 = MC := ⟨_, rfl⟩
        rw [hMC] at hmk
        have HMC := Lib.hid hMC
        clear hMC
        refine wp_region_late [8] (fun w' => w'.cell? ⟨b, 3, none⟩ = some (.slice A2 F.length c2)) (by kernel_rfl) hT9.2.2 (fun hT => ?_)
        have hTT := hT9.2.2
        refine WL.take (i := 0) (v := ?_) rfl (by kernel_rfl) (by kernel_rfl) (by kernel_rfl) (by kernel_rfl) (fun _ _ _ h => h) (Or.inl ⟨by rfl, ?_⟩) (by assumption) ?_
        rotate_left 1
        · (intro w' hSw; (try (replace hSw := hSw (by decide); dsimp only at hSw)); go_split_ands; go_simp; try with_reducible rfl)
        simp only [Act.put, List.getElem_toArray, List.getElem_cons_zero, List.getElem_cons_succ, List.setIfInBounds_toArray, List.set_cons_zero, List.set_cons_succ]
        refine WL.take (i := 1) (v := ?_) rfl (by kernel_rfl) (by kernel_rfl) (by kernel_rfl) (by kernel_rfl) (fun _ _ _ h => h) (Or.inl ⟨by rfl, ?_⟩) (by assumption) ?_
        rotate_left 1
        · (intro w' hSw; (try (replace hSw := hSw (by decide); dsimp only at hSw)); go_split_ands; go_simp; try with_reducible rfl)
        simp only [Act.put, List.getElem_toArray, List.getElem_cons_zero, List.getElem_cons_succ, List.setIfInBounds_toArray, List.set_cons_zero, List.set_cons_succ]
        refine WL.take (i := 2) (v := ?_) rfl (by kernel_rfl) (by kernel_rfl) (by kernel_rfl) (by kernel_rfl) (fun _ _ _ h => h) (Or.inl ⟨by rfl, ?_⟩) (by assumption) ?_
        rotate_left 1
        · (intro w' hSw; (try (replace hSw := hSw (by decide); dsimp only at hSw)); go_split_ands; go_simp; try with_reducible rfl)
        simp only [Act.put, List.getElem_toArray, List.getElem_cons_zero, List.getElem_cons_succ, List.setIfInBounds_toArray, List.set_cons_zero, List.set_cons_succ]
        refine WL.take (i := 3) (v := ?_) rfl (by kernel_rfl) (by kernel_rfl) (by kernel_rfl) (by kernel_rfl) (fun _ _ _ h => h) (Or.inl ⟨by rfl, ?_⟩) (by assumption) ?_
        rotate_left 1
        · (intro w' hSw; (try (replace hSw := hSw (by decide); dsimp only at hSw)); go_split_ands; go_simp; try with_reducible rfl)
        simp only [Act.put, List.getElem_toArray, List.getElem_cons_zero, List.getElem_cons_succ, List.setIfInBounds_toArray, List.set_cons_zero, List.set_cons_succ]
        refine WL.take (i := 5) (v := ?_) rfl (by kernel_rfl) (by kernel_rfl) (by kernel_rfl) (by kernel_rfl) (fun _ _ _ h => h) (Or.inl ⟨by rfl, ?_⟩) (by assumption) ?_
        rotate_left 1
        · (intro w' hSw; (try (replace hSw := hSw (by decide); dsimp only at hSw)); go_split_ands; go_simp; try with_reducible rfl)
        simp only [Act.put, List.getElem_toArray, List.getElem_cons_zero, List.getElem_cons_succ, List.setIfInBounds_toArray, List.set_cons_zero, List.set_cons_succ]
        refine WL.take (i := 6) (v := ?_) rfl (by kernel_rfl) (by kernel_rfl) (by kernel_rfl) (by kernel_rfl) (fun _ _ _ h => h) (Or.inl ⟨by rfl, ?_⟩) (by assumption) ?_
        rotate_left 1
        · (intro w' hSw; (try (replace hSw := hSw (by decide); dsimp only at hSw)); go_split_ands; go_simp; try with_reducible rfl)
        simp only [Act.put, List.getElem_toArray, List.getElem_cons_zero, List.getElem_cons_succ, List.setIfInBounds_toArray, List.set_cons_zero, List.set_cons_succ]
        refine WL.take (i := 7) (v := ?_) rfl (by kernel_rfl) (by kernel_rfl) (by kernel_rfl) (by kernel_rfl) (fun _ _ _ h => h) (Or.inl ⟨by rfl, ?_⟩) (by assumption) ?_
        rotate_left 1
        · (intro w' hSw; (try (replace hSw := hSw (by decide); dsimp only at hSw)); go_split_ands; go_simp; try with_reducible rfl)
        simp only [Act.put, List.getElem_toArray, List.getElem_cons_zero, List.getElem_cons_succ, List.setIfInBounds_toArray, List.set_cons_zero, List.set_cons_succ]
        refine WL.take (i := 8) (v := ?_) rfl (by kernel_rfl) (by kernel_rfl) (by kernel_rfl) (by kernel_rfl) (fun _ _ _ h => h) (Or.inl ⟨by rfl, ?_⟩) (by assumption) ?_
        rotate_left 1
        · (intro w' hSw; (try (replace hSw := hSw (by decide); dsimp only at hSw)); go_split_ands; go_simp; try with_reducible rfl)
        simp only [Act.put, List.getElem_toArray, List.getElem_cons_zero, List.getElem_cons_succ, List.setIfInBounds_toArray, List.set_cons_zero, List.set_cons_succ]
        refine WL.take (i := 9) (v := ?_) rfl (by kernel_rfl) (by kernel_rfl) (by kernel_rfl) (by kernel_rfl) (fun _ _ _ h => h) (Or.inl ⟨by rfl, ?_⟩) (by assumption) ?_
        rotate_left 1
        · (intro w' hSw; (try (replace hSw := hSw (by decide); dsimp only at hSw)); go_split_ands; go_simp; try with_reducible rfl)
        simp only [Act.put, List.getElem_toArray, List.getElem_cons_zero, List.getElem_cons_succ, List.setIfInBounds_toArray, List.set_cons_zero, List.set_cons_succ]
        refine WL.one (i := 4) (by kernel_rfl) rfl (fun K hK => ?_)
        rw [if_pos (by rfl)]
        refine wp_make 25 (.tmp 63) (.tmp 63) (by rfl) 106 (by rfl) (by rfl) _ _ (hmk _) ?_
        go_simp
        have hbm : Below w9.heap.size w9 (w9.alloc (.cells MC 5)).drew := ((Below.refl _ _).alloc (Nat.le_refl _) _).drew
        have hom : RN .u8 (w9.alloc (.cells MC 5)).drew (some ⟨w9.heap.size, 0, none⟩) (List.replicate 106 0) := by
          have h := made_N (W := w9) (base := w9.heap.size) (e := 5) (k := .u8) (m := 106) (Nat.le_refl _) (by omega)
          rw [HMC.out] at h
          obtain ⟨A', c', e', _, h'⟩ := OwnN.reads h
          injection e' with e1 e2 e3
          rw [e1]
          exact h'.below (Below.refl _ _).drew
        refine hK.out _ _ (fun _ => (hbm.cell (p := ⟨b, 3, none⟩) (by show b < _; omega)).trans hTT) ?_
        clear hK K hT hTT hT9 hmk
        generalize hgm : w9.heap.size = gm at hbm hom ⊢
        generalize (w9.alloc (.cells MC 5)).drew = x1 at hbm hom ⊢
        refine WL.late (i := 10) (by kernel_rfl) rfl (by kernel_rfl) (fun K hK => ?_)
        go_simp
        refine hK.out _ _ ?_
        clear hK K
        refine WL.late (i := 11) (by kernel_rfl) rfl (by kernel_rfl) (fun K hK => ?_)
        go_simp
        go_at_call 36
        have hga : (x1.alloc (.cells #[.slice A9 22 c9, .slice (some ⟨gm, 0, none⟩) 106 106, .slice A2 F.length c2, .slice A3 T.length c3] 25)).heap[x1.heap.size]? = some (.cells #[.slice A9 22 c9, .slice (some ⟨gm, 0, none⟩) 106 106, .slice A2 F.length c2, .slice A3 T.length c3] 25 (0, 0)) := heap_alloc_new _ _
        have hba : Below x1.heap.size x1 (x1.alloc (.cells #[.slice A9 22 c9, .slice (some ⟨gm, 0, none⟩) 106 106, .slice A2 F.length c2, .slice A3 T.length c3] 25)) := (Below.refl _ _).alloc (Nat.le_refl _) _
        have hsa : (x1.alloc (.cells #[.slice A9 22 c9, .slice (some ⟨gm, 0, none⟩) 106 106, .slice A2 F.length c2, .slice A3 T.length c3] 25)).heap.size = x1.heap.size + 1 := by simp
        rw [← hgm] at hbm
        have hs1 := hbm.size
        generalize hxa : x1.alloc (.cells #[.slice A9 22 c9, .slice (some ⟨gm, 0, none⟩) 106 106, .slice A2 F.length c2, .slice A3 T.length c3] 25) = xa at hga hba hsa ⊢
        have hb1a : Below w9.heap.size w9 xa := hbm.trans (hba.mono hs1)
        refine (ConcatB_c x1.heap.size 4 [(A9, c9, H2), (some ⟨gm, 0, none⟩, 106, List.replicate 106 0), (A2, c2, F), (A3, c3, T)] xa (by omega) (fun i h => ?_) (fun x hx => ?_) ?_ (by simp)).mono ?_
        · rw [cell_of_row _ _ _ _ _ _ hga]
          have hi : i < 4 := h
          rcases i with _ | _ | _ | _ | i
          · show some _ = some (Value.slice A9 H2.length c9)
            rw [HL9.out]
            rfl
          · rfl
          · rfl
          · rfl
          · omega
        · simp only [List.mem_cons, List.not_mem_nil, or_false] at hx
          rcases hx with rfl | rfl | rfl | rfl
          · exact HR9.out.below hb1a
          · exact hom.below hba
          · exact ((H3.out.rn.below (HB.out.trans ((HB9.out.trans (hb1a.mono hs9)).mono hs))))
          · exact (HRTT.out.below (HB9.out.trans (hb1a.mono hs9)))
        · have hF := HFL.out.1
          rw [← HFF.out] at hF
          have hT3 := HTL.out
          simp [srs, HL9.out]
          omega
        rintro e wz ⟨vz, rfl, hoz, hbz⟩
        have hsr : srs [(A9, c9, H2), (some ⟨gm, 0, none⟩, 106, List.replicate 106 0), (A2, c2, F), (A3, c3, T)] = bodyN id L := by
          unfold bodyN
          rw [HH2E.out, HTT.out, ← HFF.out]
          simp [srs]
        rw [hsr] at hoz
        have hbz' : Below wx.heap.size wx wz := HB9.out.trans ((hb1a.trans (hbz.mono hb1a.size)).mono hs9)
        have hoz' := hoz.lower (b := w.heap.size) (by have := hb1a.size; omega)
        obtain ⟨Az, cz, ez, hcz, _⟩ := hoz.reads
        subst ez
        have HOZ := Lib.hid hoz'
        have HBZ := Lib.hid (HB.out.trans (hbz'.mono hs))
        clear hoz hoz' hbz hbz' hga hba hsa hbm hom hb1a hxa hgm hs1
        go_simp
        refine hK.out _ _ ?_
        clear hK K
        refine WL.late (i := 12) (by kernel_rfl) rfl (by kernel_rfl) (fun K hK => ?_)
        go_simp
        refine hK.out _ _ ?_
        clear hK K
        refine WL.done (by kernel_rfl) ?_ _
        have hbl := bodyN_len id L
        have hfin : bytesN id L = bodyN id L ++ List.replicate (padZ (bodyN id L).length) 0 := rfl
        have hF := HFL.out.1
        rw [← HFF.out] at hF hbl
        obtain ⟨BB, hBB⟩ : ∃ BB, bodyN id L = BB := ⟨_, rfl⟩
        rw [hBB] at hbl hfin hcz HOZ ⊢
        obtain ⟨M, hM⟩ : ∃ M, BB.length = M := ⟨_, rfl⟩
        rw [hM] at hbl hfin hcz HOZ ⊢
        have hM1 : (M : Int) ≤ 40000 := by omega
        have hM0 : (0 : Int) ≤ (M : Int) := by omega
        have hz1 : (128 - (M : Int) % 128) % 128 = ((padZ M : Nat) : Int) := by unfold padZ; omega
        obtain ⟨z, hz⟩ : ∃ z, padZ M = z := ⟨_, rfl⟩
        rw [hz] at hz1 hfin
        have hzle : M + z ≤ 70000000000000 := by rw [← hz]; unfold padZ; omega
        have hMp : 0 < M := by omega
        have HFIN := Lib.hid hfin
        have HM := Lib.hid hM
        have HZL := Lib.hid hzle
        have hsz := HBZ.out.size
        clear hbl hfin hBB hM hz hzle hF
        go_wp2_with (at_builtin; refine append_zeros w.heap.size rfl (.tmp 72) (.tmp 77) rfl (.slice Az M cz) BB z rfl (by first | rfl | exact hz1 ▸ rfl) HOZ.out (by rw [HM.out]; exact hMp) hsz (by rw [HM.out]; exact HZL.out) ?_; intro vf wf hof hgf)
        go_ret
        exact ⟨_, rfl, by rw [HFIN.out]; exact hof, HBZ.out.grown hgf hsz (fun j ej => own_base HOZ.out j ej)⟩
end Go.Proofs.YtbcamfbbooggfaaGreat.F
