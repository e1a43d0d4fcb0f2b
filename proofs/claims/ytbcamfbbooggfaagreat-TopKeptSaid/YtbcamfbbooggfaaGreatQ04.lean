/- Part 4 of the proof: TDs, TDt, TDw, TDr, TRi. -/
import Derived.WalkKit
import Derived.Test.YtbcamfbbooggfaaGreatQ03
import Derived.Laws.BitsAllLaws
import Derived.Deep.WholeRow
import Derived.Laws.CopyOwn
import Derived.Deep.DeepMust
import Derived.StillTailTactics
import Derived.IntWalk
import Derived.RegionTactic

section
/- A text's sum, in plain numbers. -/
set_option linter.unusedVariables false
set_option linter.unusedSimpArgs false
namespace Go.Proofs.YtbcamfbbooggfaaGreat.F

/-- A word turned right. -/
def rotr (x n : Nat) : Nat := (x * 2 ^ (32 - n)) % 4294967296 ||| x / 2 ^ n
theorem rotr_lt (x n : Nat) (h : x < 4294967296) : rotr x n < 4294967296 :=
  Nat.or_lt_two_pow (n := 32) (Nat.mod_lt _ (by omega)) (Nat.lt_of_le_of_lt (Nat.div_le_self _ _) h)
def sg0 (x : Nat) : Nat := rotr x 7 ^^^ rotr x 18 ^^^ x / 8
def sg1 (x : Nat) : Nat := rotr x 17 ^^^ rotr x 19 ^^^ x / 1024
/-- The t-th word of a block. -/
def wd (p : List Nat) (t : Nat) : Nat :=
  if h : t < 16 then ((p.getD (4 * t) 0 * 256 + p.getD (4 * t + 1) 0) * 256 + p.getD (4 * t + 2) 0) * 256 + p.getD (4 * t + 3) 0
  else (wd p (t - 16) + sg0 (wd p (t - 15)) + wd p (t - 7) + sg1 (wd p (t - 2))) % 4294967296
termination_by t
decreasing_by all_goals omega
theorem wd_lo (p : List Nat) (t : Nat) (h : t < 16) : wd p t = ((p.getD (4 * t) 0 * 256 + p.getD (4 * t + 1) 0) * 256 + p.getD (4 * t + 2) 0) * 256 + p.getD (4 * t + 3) 0 := by rw [wd, dif_pos h]
theorem wd_hi (p : List Nat) (t : Nat) (h : ¬ t < 16) : wd p t = (wd p (t - 16) + sg0 (wd p (t - 15)) + wd p (t - 7) + sg1 (wd p (t - 2))) % 4294967296 := by rw [wd, dif_neg h]
theorem getD_lt {p : List Nat} {b : Nat} (hb : 0 < b) (hp : ∀ x ∈ p, x < b) (i : Nat) : p.getD i 0 < b := by
  rw [List.getD_eq_getElem?_getD]
  by_cases h : i < p.length
  · rw [List.getElem?_eq_getElem h]; exact hp _ (List.getElem_mem h)
  · rw [List.getElem?_eq_none (by omega)]; exact hb
theorem wd_lt {p : List Nat} (hp : ∀ x ∈ p, x < 256) (t : Nat) : wd p t < 4294967296 := by
  by_cases h : t < 16
  · rw [wd_lo p t h]
    have h0 := getD_lt (by omega) hp (4 * t)
    have h1 := getD_lt (by omega) hp (4 * t + 1)
    have h2 := getD_lt (by omega) hp (4 * t + 2)
    have h3 := getD_lt (by omega) hp (4 * t + 3)
    omega
  · rw [wd_hi p t h]
    exact Nat.mod_lt _ (by omega)

/-- A state: eight words. -/
structure St where
  (a b c d e f g h : Nat)
def St.ok (s : St) : Prop := s.a < 4294967296 ∧ s.b < 4294967296 ∧ s.c < 4294967296 ∧ s.d < 4294967296 ∧ s.e < 4294967296 ∧ s.f < 4294967296 ∧ s.g < 4294967296 ∧ s.h < 4294967296
def big1 (x : Nat) : Nat := rotr x 6 ^^^ rotr x 11 ^^^ rotr x 25
def big0 (x : Nat) : Nat := rotr x 2 ^^^ rotr x 13 ^^^ rotr x 22
def cho (e f g : Nat) : Nat := g ^^^ (e &&& (f ^^^ g))
def maj (a b c : Nat) : Nat := (a &&& (b ||| c)) ||| (b &&& c)
def rnd (s : St) (k w : Nat) : St :=
  let x := (s.h + big1 s.e + cho s.e s.f s.g + k + w) % 4294967296
  let y := (big0 s.a + maj s.a s.b s.c) % 4294967296
  ⟨(x + y) % 4294967296, s.a, s.b, s.c, (s.d + x) % 4294967296, s.e, s.f, s.g⟩
def Kw : List Nat := [1116352408, 1899447441, 3049323471, 3921009573, 961987163, 1508970993, 2453635748, 2870763221, 3624381080, 310598401, 607225278, 1426881987, 1925078388, 2162078206, 2614888103, 3248222580, 3835390401, 4022224774, 264347078, 604807628, 770255983, 1249150122, 1555081692, 1996064986, 2554220882, 2821834349, 2952996808, 3210313671, 3336571891, 3584528711, 113926993, 338241895, 666307205, 773529912, 1294757372, 1396182291, 1695183700, 1986661051, 2177026350, 2456956037, 2730485921, 2820302411, 3259730800, 3345764771, 3516065817, 3600352804, 4094571909, 275423344, 430227734, 506948616, 659060556, 883997877, 958139571, 1322822218, 1537002063, 1747873779, 1955562222, 2024104815, 2227730452, 2361852424, 2428436474, 2756734187, 3204031479, 3329325298]
def rnds (s : St) (p : List Nat) : Nat → St
  | 0 => s
  | t + 1 => rnd (rnds s p t) (Kw.getD t 0) (wd p t)
def addS (s v : St) : St := ⟨(s.a + v.a) % 4294967296, (s.b + v.b) % 4294967296, (s.c + v.c) % 4294967296, (s.d + v.d) % 4294967296, (s.e + v.e) % 4294967296, (s.f + v.f) % 4294967296, (s.g + v.g) % 4294967296, (s.h + v.h) % 4294967296⟩
def mixS (s : St) (p : List Nat) : St := addS s (rnds s p 64)
theorem rnd_ok (s : St) (k w : Nat) (h : s.ok) : (rnd s k w).ok := by
  obtain ⟨h1, h2, h3, h4, h5, h6, h7, h8⟩ := h
  exact ⟨Nat.mod_lt _ (by omega), h1, h2, h3, Nat.mod_lt _ (by omega), h5, h6, h7⟩
theorem rnds_ok (s : St) (p : List Nat) (h : s.ok) : ∀ t, (rnds s p t).ok
  | 0 => h
  | t + 1 => rnd_ok _ _ _ (rnds_ok s p h t)
theorem addS_ok (s v : St) : (addS s v).ok := ⟨Nat.mod_lt _ (by omega), Nat.mod_lt _ (by omega), Nat.mod_lt _ (by omega), Nat.mod_lt _ (by omega), Nat.mod_lt _ (by omega), Nat.mod_lt _ (by omega), Nat.mod_lt _ (by omega), Nat.mod_lt _ (by omega)⟩
theorem mixS_ok (s : St) (p : List Nat) : (mixS s p).ok := addS_ok _ _
def beginS : St := ⟨1779033703, 3144134277, 1013904242, 2773480762, 1359893119, 2600822924, 528734635, 1541459225⟩
theorem beginS_ok : beginS.ok := by unfold St.ok beginS; refine ⟨?_, ?_, ?_, ?_, ?_, ?_, ?_, ?_⟩ <;> dsimp only <;> omega
/-- The state behind n blocks. -/
def mixes (s : St) (m : List Nat) : Nat → St
  | 0 => s
  | n + 1 => mixS (mixes s m n) ((m.drop (64 * n)).take 64)
theorem mixes_ok {s : St} (h : s.ok) (m : List Nat) : ∀ n, (mixes s m n).ok
  | 0 => h
  | n + 1 => mixS_ok _ _
theorem mixes_add (s : St) (m : List Nat) (a : Nat) : ∀ n, mixes s m (a + n) = mixes (mixes s m a) (m.drop (64 * a)) n
  | 0 => rfl
  | n + 1 => by
    show mixS (mixes s m (a + n)) ((m.drop (64 * (a + n))).take 64) = mixS (mixes (mixes s m a) (m.drop (64 * a)) n) (((m.drop (64 * a)).drop (64 * n)).take 64)
    rw [mixes_add s m a n, List.drop_drop, show 64 * (a + n) = 64 * a + 64 * n by omega]
theorem mixes_app (s : St) (m r : List Nat) : ∀ n, 64 * n ≤ m.length → mixes s (m ++ r) n = mixes s m n
  | 0, _ => rfl
  | n + 1, h => by
    show mixS (mixes s (m ++ r) n) (((m ++ r).drop (64 * n)).take 64) = mixS (mixes s m n) ((m.drop (64 * n)).take 64)
    rw [mixes_app s m r n (by omega), List.drop_append_of_le_length (by omega), List.take_append_of_le_length (by rw [List.length_drop]; omega)]
/-- What is laid behind n bytes. -/
def padN (n : Nat) : List Nat := 128 :: List.replicate ((119 - n % 64) % 64) 0 ++ (List.range 8).map fun i => n * 8 / 2 ^ (56 - 8 * i) % 256
end Go.Proofs.YtbcamfbbooggfaaGreat.F
end

section
/- A word turned, and the words of a block, walked. -/
set_option linter.unusedVariables false
set_option linter.unusedSimpArgs false
namespace Go.Proofs.YtbcamfbbooggfaaGreat.F
open Go.RowKit Go.Proofs.YtbcamfbbooggfaaGreatW.PrintWords

theorem rot_count (n : Nat) (h0 : 0 < n) (h1 : n < 32) : Go.bits .and .u64 (IntKind.u64.wrap (-(n : Int))) 31 = ((32 - n : Nat) : Int) := by
  have h : ∀ n : Fin 32, 0 < n.val → Go.bits .and .u64 (IntKind.u64.wrap (-(n.val : Int))) 31 = ((32 - n.val : Nat) : Int) := by decide +kernel
  exact h ⟨n, h1⟩ h0
theorem or_rotr (x n m : Nat) (hx : x < 4294967296) (hm : m = 32 - n) : Go.bits .or .u32 ((x : Int) * 2 ^ m % 4294967296) ((x : Int) / 2 ^ n) = ((rotr x n : Nat) : Int) := by
  subst hm
  have e1 : (x : Int) * 2 ^ (32 - n) % 4294967296 = ((x * 2 ^ (32 - n) % 4294967296 : Nat) : Int) := by simp only [Int.natCast_emod, Int.natCast_mul, Int.natCast_pow]; rfl
  have e2 : (x : Int) / 2 ^ n = ((x / 2 ^ n : Nat) : Int) := by norm_cast
  rw [e1, e2, u32_or_nat _ _ (Nat.mod_lt _ (by omega)) (Nat.lt_of_le_of_lt (Nat.div_le_self _ _) hx)]
  rfl
theorem rot_c (x n : Nat) (w : World) (hx : x < 4294967296) (h0 : 0 < n) (h1 : n < 32) :
    Calls Tryz.prog 149 #[.int .u32 x, .int .i64 (-(n : Int))] w fun e w' => e = .returned (.int .u32 (rotr x n : Nat)) ∧ w' = w := by
  have hs := rot_count n h0 h1
  obtain ⟨m, hm⟩ : ∃ m, m = 32 - n := ⟨_, rfl⟩
  rw [← hm] at hs
  have hm1 : 0 < m := by omega
  have hm2 : m < 32 := by omega
  have hor := or_rotr x n m hx hm
  have hnm : 32 - m = n := by omega
  have HO := Lib.hid hor
  have HM := Lib.hid hnm
  clear hor hm hnm
  go_enter Tryz.func149, Tryz.ntmps149
  go_wp2_with fail
  go_ret
  exact ⟨by rw [HM.out, HO.out]; rfl, rfl⟩
theorem turn_c (x n : Nat) (w : World) (hx : x < 4294967296) (h0 : 0 < n) (h1 : n < 32) :
    Calls Tryz.prog 119 #[.int .u32 x, .int .i64 n] w fun e w' => e = .returned (.int .u32 (rotr x n : Nat)) ∧ w' = w := by
  go_enter Tryz.func119, Tryz.ntmps119
  go_wp2_with fail
  refine (rot_c x n _ hx h0 h1).mono ?_
  rintro e w1 ⟨rfl, rfl⟩
  go_wp2_with fail
  go_ret
  exact ⟨rfl, rfl⟩
end Go.Proofs.YtbcamfbbooggfaaGreat.F
end

section
/- The words of a block, walked. -/
set_option linter.unusedVariables false
set_option linter.unusedSimpArgs false
namespace Go.Proofs.YtbcamfbbooggfaaGreat.F
open Go.RowKit Go.Proofs.YtbcamfbbooggfaaGreatW.PrintWords

/-- An array's cells. -/
def tabA (xs : List Nat) : Array Value := (xs.map (encN .u32)).toArray
theorem tabA_size (xs : List Nat) : (tabA xs).size = xs.length := by simp [tabA]
theorem tabA_get (xs : List Nat) (i : Nat) (h : i < xs.length) : (tabA xs)[i]? = some (.int .u32 (xs[i] : Nat)) := by simp [tabA, h, encN]
theorem tabA_one (xs : List Nat) : (tabA xs).all (·.oneCell') = true := by simp [tabA, encN, Value.oneCell']
def zeros64 : Array Value := Array.replicate 64 (.int .u32 0)
theorem zero64 : ∀ W : World, Sem.run Tryz.prog (zeroValue 220) W = .ok (.agg zeros64) W := fun _ => by kernel_rfl
theorem info64 : (Tryz.prog.info? 220).map (·.size) = some 64 := by kernel_rfl
section
variable {P : Program} {ops : Array Oper} {rest : List Oper} {o : Oper} {a : Act} {w : World} {Q : Exit → Act → World → Prop}
/-- A whole array into a block. -/
theorem wpList_store_row (hgd : o.guard = none) (ty : TypeId) (p x : Operand) (ho : o.op = .store ty p x) (g : Nat) (hp : a.eval p = .pointer (some ⟨g, 0, none⟩)) (cs old : Array Value) (hx : a.eval x = .agg cs)
    (t : TypeId) (hg : w.heap[g]? = some (.cells old t (0, 0))) (hi : (P.info? ty).map (·.size) = some cs.size) (hs : old.size = cs.size) (h1 : cs.all (·.oneCell') = true)
    (h : wpList P ops Q rest (a.put o.dst undef) (w.setRow g cs)) : wpList P ops Q (o :: rest) a w :=
  wpList_plain hgd fun K hK => by
    unfold Oper.wp execOp
    simp only [ho, hp, hx, Instr.storeAt, Instr.sureAddr, Sem.run_bind, Sem.run_pure, Result.andThen_ok, run_storeVar_row w g t ty old cs hg hi hs h1]
    exact hK _ _ h
end
/-- The first j bytes of the t-th word. -/
def wpre (p : List Nat) (t : Nat) : Nat → Nat
  | 0 => 0
  | j + 1 => wpre p t j * 256 + p.getD (4 * t + j) 0
theorem wpre_lt {p : List Nat} (hp : ∀ x ∈ p, x < 256) (t : Nat) : ∀ j, wpre p t j < 256 ^ j
  | 0 => by simp [wpre]
  | j + 1 => by
    have h1 := wpre_lt hp t j
    have h2 := getD_lt (by omega) hp (4 * t + j)
    simp only [wpre, Nat.pow_succ]
    omega
theorem wpre_wd (p : List Nat) (t : Nat) (h : t < 16) : wpre p t 4 = wd p t := by rw [wd_lo p t h]; simp [wpre]
theorem wpre_step (x c : Nat) (hx : x < 16777216) (hc : c < 256) : Go.bits .or .u32 ((x : Int) * 256) (c : Int) = ((x * 256 + c : Nat) : Int) := by
  rw [show (x : Int) * 256 = ((x * 256 : Nat) : Int) by omega, u32_or_nat _ _ (by omega) (by omega), nat_join 8 (x * 256) c (by omega) (by omega)]
/-- An array of 64 words, each told by its place. -/
def tabF (f : Nat → Nat) : Array Value := tabA ((List.range 64).map f)
theorem tabF_size (f : Nat → Nat) : (tabF f).size = 64 := by simp [tabF, tabA]
theorem tabF_get (f : Nat → Nat) (i : Nat) (h : i < 64) : (tabF f)[i]? = some (.int .u32 (f i : Nat)) := by
  unfold tabF
  rw [tabA_get _ _ (by simpa using h)]
  simp
def upd (f : Nat → Nat) (i x : Nat) : Nat → Nat := fun j => if j = i then x else f j
theorem tabF_set (f : Nat → Nat) (i x : Nat) (h : i < 64) : (tabF f).setIfInBounds i (.int .u32 (x : Nat)) = tabF (upd f i x) := by
  apply Array.ext_getElem?
  intro j
  by_cases hj : j < 64
  · rw [tabF_get _ j hj]
    by_cases e : i = j
    · subst e
      rw [Array.getElem?_setIfInBounds_self_of_lt (by rw [tabF_size]; exact hj)]
      simp [upd]
    · rw [Array.getElem?_setIfInBounds_ne e, tabF_get _ j hj]
      simp [upd, Ne.symm e]
  · rw [Array.getElem?_eq_none (by simp [tabF_size]; omega), Array.getElem?_eq_none (by rw [tabF_size]; omega)]
theorem tabF_zero : zeros64 = tabF fun _ => 0 := by kernel_rfl
theorem tabF_congr {f g : Nat → Nat} (h : ∀ i, i < 64 → f i = g i) : tabF f = tabF g := by
  unfold tabF
  congr 1
  exact List.map_congr_left fun i hi => h i (List.mem_range.1 hi)
def wst (p : List Nat) (t j : Nat) : Nat → Nat := fun i => if i < t then wd p i else if i = t then wpre p t j else 0
theorem wst_step (p : List Nat) (t j : Nat) : upd (wst p t j) t (wpre p t (j + 1)) = wst p t (j + 1) := by
  funext i
  unfold upd wst
  by_cases h : i = t
  · subst h; simp
  · simp only [if_neg h]
theorem wst_next (p : List Nat) (t : Nat) (h : t < 16) : wst p t 4 = wst p (t + 1) 0 := by
  funext i
  unfold wst
  by_cases h1 : i < t
  · rw [if_pos h1, if_pos (by omega)]
  · rw [if_neg h1]
    by_cases h2 : i = t
    · subst h2; rw [if_pos rfl, if_pos (by omega), wpre_wd p i h]
    · rw [if_neg h2, if_neg (by omega)]; split <;> simp [wpre]
theorem wst_put (p : List Nat) (t : Nat) : upd (wst p t 0) t (wd p t) = wst p (t + 1) 0 := by
  funext i
  unfold upd wst
  by_cases h : i = t
  · subst h; rw [if_pos rfl, if_pos (by omega)]
  · rw [if_neg h]
    by_cases h1 : i < t
    · rw [if_pos h1, if_pos (by omega)]
    · rw [if_neg h1, if_neg h, if_neg (by omega)]; split <;> simp [wpre]
theorem wst_at (p : List Nat) (t i : Nat) (h : i < t) : wst p t 0 i = wd p i := by unfold wst; rw [if_pos h]
theorem wst_start (p : List Nat) : (fun _ => 0 : Nat → Nat) = wst p 0 0 := by
  funext i
  unfold wst
  rw [if_neg (by omega)]; split <;> simp [wpre]
/-- The cells of an array behind a store. -/
theorem tabF_store {W : World} {g t : Nat} {f : Nat → Nat} {i x : Nat} (h : W.heap[g]? = some (.cells (tabF f) t (0, 0))) (hi : i < 64) :
    (W.setCell ⟨g, i, none⟩ (.int .u32 (x : Nat))).heap[g]? = some (.cells (tabF (upd f i x)) t (0, 0)) := by
  rw [heap_setCell_same _ _ _ _ _ _ h, tabF_set f i x hi]
theorem tabF_cell {W : World} {g t : Nat} {f : Nat → Nat} (h : W.heap[g]? = some (.cells (tabF f) t (0, 0))) (i : Nat) (hi : i < 64) : W.cell? ⟨g, i, none⟩ = some (.int .u32 (f i : Nat)) := by
  rw [cell_of_row _ _ _ _ _ _ h]; exact tabF_get f i hi
theorem tabF_free {W : World} {g t : Nat} {f : Nat → Nat} (h : W.heap[g]? = some (.cells (tabF f) t (0, 0))) (i : Nat) : W.frozen? ⟨g, i, none⟩ = false := frozen_of_row _ _ _ _ _ h

set_option maxHeartbeats 1000000 in
set_option maxRecDepth 20000 in
theorem words_c (A : Option Addr) (c : Nat) (p : List Nat) (w : World) (hr : RN .u8 w A p) (hp : ∀ x ∈ p, x < 256) (hl : p.length = 64) (hc : 64 ≤ c) :
    Calls Tryz.prog 117 #[.slice A 64 c] w fun e w' => e = .returned (.agg (tabF (wd p))) ∧ Below w.heap.size w w' := by
  have hz := zero64
  obtain ⟨ad, e, hx⟩ := hr.at 0 (by omega)
  subst e
  clear hx
  have hc1 : (64 : Int) ≤ c := by omega
  obtain ⟨W0, hW0⟩ : ∃ W0, (w.alloc (.cells zeros64 220)).alloc (.cells zeros64 220) = W0 := ⟨_, rfl⟩
  have hg0 : W0.heap[w.heap.size]? = some (.cells (tabF fun _ => 0) 220 (0, 0)) := by rw [← hW0, ← tabF_zero]; exact heap_alloc2_old _ _ _
  have hg1 : W0.heap[w.heap.size + 1]? = some (.cells (tabF (wst p 0 0)) 220 (0, 0)) := by rw [← hW0, ← wst_start, ← tabF_zero]; exact heap_alloc2_new _ _ _
  have hB0 : Below w.heap.size w W0 := by rw [← hW0]; exact ((Below.refl _ _).alloc (Nat.le_refl _) _).alloc (by simp) _
  have HW0 := Lib.hid hW0
  have HG0 := Lib.hid hg0
  have HG1 := Lib.hid hg1
  have HL := Lib.hid hl
  clear hg0 hg1 hl hW0
  go_enter Tryz.func117, Tryz.ntmps117
  go_wp2_with fail
  rw [HW0.out]
  clear hz
  go_loopw [10] (fun vt W => ∃ t : Nat, t ≤ 16 ∧ vt = .int .i64 t ∧ W.heap[w.heap.size + 1]? = some (.cells (tabF (wst p t 0)) 220 (0, 0)) ∧ W.heap[w.heap.size]? = some (.cells (tabF fun _ => 0) 220 (0, 0)) ∧ Below w.heap.size w W) (fun vt _ => 16 - (intOf vt).toNat)
  case atStart => exact ⟨0, by omega, rfl, HG1.out, HG0.out, hB0⟩
  case round =>
    obtain ⟨t, ht, rfl, h1, h0, hW⟩ := hrel
    have H1 := Lib.hid h1
    have H0 := Lib.hid h0
    clear h1 h0
    by_cases hlt : t < 16
    · have hd : decide ((t : Int) < 16) = true := by simp; omega
      go_wp2_with fail
      clear hd
      have hps : ∀ j, j < 4 → 4 * t + j < p.length := fun j hj => by have := HL.out; omega
      have HPS := Lib.hid hps
      clear hps
      go_loopw [21] (fun vj W => ∃ j : Nat, j ≤ 4 ∧ vj = .int .i64 j ∧ W.heap[w.heap.size + 1]? = some (.cells (tabF (wst p t j)) 220 (0, 0)) ∧ W.heap[w.heap.size]? = some (.cells (tabF fun _ => 0) 220 (0, 0)) ∧ Below w.heap.size w W) (fun vj _ => 4 - (intOf vj).toNat)
      case atStart => exact ⟨0, by omega, rfl, H1.out, H0.out, hW⟩
      case round =>
        obtain ⟨j, hj, rfl, h1, h0, hW2⟩ := hrel
        by_cases hlj : j < 4
        · have hd : decide ((j : Int) < 4) = true := by simp; omega
          obtain ⟨bd, e, hcb⟩ := (hr.below hW2).at (4 * t + j) (HPS.out j hlj)
          injection e with e
          subst e
          rw [← add_add] at hcb
          have hcw := tabF_cell h1 t (by omega)
          have hfw := tabF_free h1 t
          have hwt : wst p t j t = wpre p t j := by unfold wst; rw [if_neg (by omega), if_pos rfl]
          rw [hwt] at hcw
          have hwl : wpre p t j < 16777216 := Nat.lt_of_lt_of_le (wpre_lt hp t j) (show 256 ^ j ≤ 256 ^ 3 from Nat.pow_le_pow_right (by omega) (by omega))
          have hnx : wpre p t (j + 1) = wpre p t j * 256 + p[4 * t + j]'(HPS.out j hlj) := by
            show wpre p t j * 256 + p.getD (4 * t + j) 0 = _
            rw [List.getD_eq_getElem?_getD, List.getElem?_eq_getElem (HPS.out j hlj)]; rfl
          have hyl : p[4 * t + j]'(HPS.out j hlj) < 256 := hp _ (List.getElem_mem _)
          obtain ⟨y, hy⟩ : ∃ y, p[4 * t + j]'(HPS.out j hlj) = y := ⟨_, rfl⟩
          obtain ⟨z, hzz⟩ : ∃ z, wpre p t j = z := ⟨_, rfl⟩
          rw [hy] at hcb hnx hyl
          rw [hzz] at hcw hwl hnx
          have hor := wpre_step z y hwl hyl
          rw [← hnx] at hor
          have hst := tabF_store (x := wpre p t (j + 1)) h1 (show t < 64 by omega)
          rw [wst_step] at hst
          have h0' : (wr.setCell ⟨w.heap.size + 1, t, none⟩ (.int .u32 (wpre p t (j + 1) : Nat))).heap[w.heap.size]? = some (.cells (tabF fun _ => 0) 220 (0, 0)) := by
            rw [heap_setCell_other _ _ _ _ (by simp)]; exact h0
          have HST := Lib.hid hst
          have H0' := Lib.hid h0'
          clear hnx hy hzz hst h0' hwt h1 h0
          go_wp2_with fail
          exact ⟨⟨j + 1, by omega, by go_num, HST.out, H0'.out, hW2.setCell (by simp) _⟩, by simp [intOf]; omega⟩
        · have hd : decide ((j : Int) < 4) = false := by simp; omega
          obtain rfl : j = 4 := by omega
          rw [wst_next p t hlt] at h1
          have H1' := Lib.hid h1
          have H0' := Lib.hid h0
          clear h1 h0
          go_wp2_with fail
          exact ⟨⟨t + 1, by omega, by go_num, H1'.out, H0'.out, hW2⟩, by simp [intOf]; omega⟩
    · have hd : decide ((t : Int) < 16) = false := by simp; omega
      have h1' := H1.out
      have h0' := H0.out
      rw [show t = 16 by omega] at h1'
      have H1s := Lib.hid h1'
      have H0s := Lib.hid h0'
      clear h1' h0' H1 H0
      go_wp2_with fail
      obtain ⟨wo, rfl⟩ : ∃ wo : World, wo = wr := ⟨_, rfl⟩
      go_loopw [7] (fun vt W => ∃ t : Nat, 16 ≤ t ∧ t ≤ 64 ∧ vt = .int .i64 t ∧ W.heap[w.heap.size + 1]? = some (.cells (tabF (wst p t 0)) 220 (0, 0)) ∧ W.heap[w.heap.size]? = some (.cells (tabF fun _ => 0) 220 (0, 0)) ∧ Below w.heap.size w W) (fun vt _ => 64 - (intOf vt).toNat)
      case atStart => exact ⟨16, by omega, by omega, rfl, H1s.out, H0s.out, hW⟩
      case round =>
        obtain ⟨t, ht1, ht2, rfl, h1, h0, hW2⟩ := hrel
        by_cases hlt : t < 64
        · have hd : decide ((t : Int) < 64) = true := by simp; omega
          have c15 := tabF_cell h1 (t - 15) (by omega)
          have c2 := tabF_cell h1 (t - 2) (by omega)
          have c16 := tabF_cell h1 (t - 16) (by omega)
          have c7 := tabF_cell h1 (t - 7) (by omega)
          have cf := tabF_free h1 t
          rw [wst_at p t _ (by omega)] at c15 c2 c16 c7
          have l15 := wd_lt hp (t - 15)
          have l2 := wd_lt hp (t - 2)
          have l16 := wd_lt hp (t - 16)
          have l7 := wd_lt hp (t - 7)
          have hnx := wd_hi p t (by omega)
          obtain ⟨x15, e15⟩ : ∃ x, wd p (t - 15) = x := ⟨_, rfl⟩
          obtain ⟨x2, e2⟩ : ∃ x, wd p (t - 2) = x := ⟨_, rfl⟩
          obtain ⟨x16, e16⟩ : ∃ x, wd p (t - 16) = x := ⟨_, rfl⟩
          obtain ⟨x7, e7⟩ : ∃ x, wd p (t - 7) = x := ⟨_, rfl⟩
          rw [e15] at c15 l15 hnx
          rw [e2] at c2 l2 hnx
          rw [e16] at c16 l16 hnx
          rw [e7] at c7 l7 hnx
          have HNX := Lib.hid hnx
          have H1' := Lib.hid h1
          have H0' := Lib.hid h0
          clear e15 e2 e16 e7 hnx h1 h0
          have w15 : IntKind.i64.wrap ((t : Int) - 15) = (t : Int) - 15 := IntWalk.i64_in _ (by omega)
          have w2 : IntKind.i64.wrap ((t : Int) - 2) = (t : Int) - 2 := IntWalk.i64_in _ (by omega)
          have n15 : (0 : Int) ≤ (t : Int) - 15 := by omega
          have n2 : (0 : Int) ≤ (t : Int) - 2 := by omega
          have m15 : (t : Int) - 15 < 64 := by omega
          have m2 : (t : Int) - 2 < 64 := by omega
          have t15 : ((t : Int) - 15).toNat = t - 15 := by omega
          have t2 : ((t : Int) - 2).toNat = t - 2 := by omega
          go_wp2_with fail
          go_quiet (fail)
          clear w15 w2 t15 t2 n15 n2 m15 m2
          go_wp2_with fail
          obtain ⟨W1, hW1⟩ : ∃ W1, wr.drewN nq = W1 := ⟨_, rfl⟩
          have d16 : W1.cell? ⟨w.heap.size + 1, t - 16, none⟩ = some (.int .u32 (x16 : Nat)) := by rw [← hW1]; exact c16
          have d7 : W1.cell? ⟨w.heap.size + 1, t - 7, none⟩ = some (.int .u32 (x7 : Nat)) := by rw [← hW1]; exact c7
          have df : W1.frozen? ⟨w.heap.size + 1, t, none⟩ = false := by rw [← hW1]; exact cf
          have hB1 : Below w.heap.size w W1 := by rw [← hW1]; exact pw_below_drewN hW2 nq
          have h1 : W1.heap[w.heap.size + 1]? = some (.cells (tabF (wst p t 0)) 220 (0, 0)) := by rw [← hW1]; exact H1'.out
          have h0 : W1.heap[w.heap.size]? = some (.cells (tabF fun _ => 0) 220 (0, 0)) := by rw [← hW1]; exact H0'.out
          have HB1 := Lib.hid hB1
          have H1 := Lib.hid h1
          have H0 := Lib.hid h0
          rw [hW1]
          clear hW1 hB1 h1 h0 c16 c7 c15 c2 cf hW2
          have r7 := rotr_lt x15 7 l15
          have r18 := rotr_lt x15 18 l15
          have r17 := rotr_lt x2 17 l2
          have r19 := rotr_lt x2 19 l2
          have y1 := u32_xor_nat (rotr x15 7) (rotr x15 18) r7 r18
          have y1l : rotr x15 7 ^^^ rotr x15 18 < 4294967296 := Nat.xor_lt_two_pow (n := 32) r7 r18
          have y2 := u32_xor_nat (rotr x2 17) (rotr x2 19) r17 r19
          have y2l : rotr x2 17 ^^^ rotr x2 19 < 4294967296 := Nat.xor_lt_two_pow (n := 32) r17 r19
          have y3 := u32_xor_nat (rotr x15 7 ^^^ rotr x15 18) (x15 / 8) y1l (by omega)
          have y4 := u32_xor_nat (rotr x2 17 ^^^ rotr x2 19) (x2 / 1024) y2l (by omega)
          have e3 : rotr x15 7 ^^^ rotr x15 18 ^^^ x15 / 8 = sg0 x15 := rfl
          have e4 : rotr x2 17 ^^^ rotr x2 19 ^^^ x2 / 1024 = sg1 x2 := rfl
          have l3 : sg0 x15 < 4294967296 := Nat.xor_lt_two_pow (n := 32) y1l (by omega)
          have l4 : sg1 x2 < 4294967296 := Nat.xor_lt_two_pow (n := 32) y2l (by omega)
          rw [e3, show ((x15 / 8 : Nat) : Int) = (x15 : Int) / 8 by omega] at y3
          rw [e4, show ((x2 / 1024 : Nat) : Int) = (x2 : Int) / 1024 by omega] at y4
          have tc7 := fun w => turn_c x15 7 w l15 (by omega) (by omega)
          have tc18 := fun w => turn_c x15 18 w l15 (by omega) (by omega)
          have tc17 := fun w => turn_c x2 17 w l2 (by omega) (by omega)
          have tc19 := fun w => turn_c x2 19 w l2 (by omega) (by omega)
          obtain ⟨q7, hq7⟩ : ∃ x, rotr x15 7 = x := ⟨_, rfl⟩
          obtain ⟨q18, hq18⟩ : ∃ x, rotr x15 18 = x := ⟨_, rfl⟩
          obtain ⟨q17, hq17⟩ : ∃ x, rotr x2 17 = x := ⟨_, rfl⟩
          obtain ⟨q19, hq19⟩ : ∃ x, rotr x2 19 = x := ⟨_, rfl⟩
          obtain ⟨s3, hs3⟩ : ∃ x, sg0 x15 = x := ⟨_, rfl⟩
          obtain ⟨s4, hs4⟩ : ∃ x, sg1 x2 = x := ⟨_, rfl⟩
          have HNX2 := HNX.out
          rw [hs3, hs4] at HNX2
          rw [hq7, hq18] at y1
          rw [hq17, hq19] at y2
          rw [hq7, hq18, hs3] at y3
          rw [hq17, hq19, hs4] at y4
          rw [hs3] at l3
          rw [hs4] at l4
          rw [hq7] at tc7
          rw [hq18] at tc18
          rw [hq17] at tc17
          rw [hq19] at tc19
          have TC7 := Lib.hid tc7
          have TC18 := Lib.hid tc18
          have TC17 := Lib.hid tc17
          have TC19 := Lib.hid tc19
          have HN2 := Lib.hid HNX2
          clear tc7 tc18 tc17 tc19 hq7 hq18 hq17 hq19 hs3 hs4 HNX2 e3 e4 HNX r7 r18 r17 r19 y1l y2l
          have w16 : IntKind.i64.wrap ((t : Int) - 16) = (t : Int) - 16 := IntWalk.i64_in _ (by omega)
          have w7 : IntKind.i64.wrap ((t : Int) - 7) = (t : Int) - 7 := IntWalk.i64_in _ (by omega)
          have n16 : (0 : Int) ≤ (t : Int) - 16 := by omega
          have p16 : (16 : Int) ≤ (t : Int) := by omega
          have p7 : (7 : Int) ≤ (t : Int) := by omega
          have p64 : (t : Int) < 64 := by omega
          have p0 : (0 : Int) ≤ (t : Int) := by omega
          have n7 : (0 : Int) ≤ (t : Int) - 7 := by omega
          have m16 : (t : Int) - 16 < 64 := by omega
          have m7 : (t : Int) - 7 < 64 := by omega
          have t16 : ((t : Int) - 16).toNat = t - 16 := by omega
          have t7 : ((t : Int) - 7).toNat = t - 7 := by omega
          refine wp_region_still_tail 29 (by kernel_rfl) (by kernel_rfl) ?_
          simp only [List.take_succ_cons, List.take_zero, List.drop_succ_cons, List.drop_zero]
          still_step
          still_step
          still_step
          still_step
          still_step
          still_step
          still_call (TC7.out _)
          still_step
          still_call (TC18.out _)
          still_step
          still_step
          still_step
          still_step
          still_step
          still_step
          still_step
          still_step
          still_step
          still_step
          still_step
          still_call (TC17.out _)
          still_step
          still_call (TC19.out _)
          still_step
          still_step
          still_step
          still_step
          still_step
          still_step
          refine wpStill_nil ?_
          change wpList _ _ _ _ _ W1.drew
          obtain ⟨W2, hW2⟩ : ∃ W2, W1.drew = W2 := ⟨_, rfl⟩
          have df2 : W2.frozen? ⟨w.heap.size + 1, t, none⟩ = false := by rw [← hW2]; exact df
          have hB2 : Below w.heap.size w W2 := by rw [← hW2]; exact HB1.out.drew
          have h1 : W2.heap[w.heap.size + 1]? = some (.cells (tabF (wst p t 0)) 220 (0, 0)) := by rw [← hW2]; exact H1.out
          have h0 : W2.heap[w.heap.size]? = some (.cells (tabF fun _ => 0) 220 (0, 0)) := by rw [← hW2]; exact H0.out
          have hst := tabF_store (x := wd p t) h1 hlt
          rw [wst_put] at hst
          have h0' : (W2.setCell ⟨w.heap.size + 1, t, none⟩ (.int .u32 (wd p t : Nat))).heap[w.heap.size]? = some (.cells (tabF fun _ => 0) 220 (0, 0)) := by
            rw [heap_setCell_other _ _ _ _ (by simp)]; exact h0
          have hc2 := tabF_cell h1 t hlt
          have HST := Lib.hid hst
          have H0'' := Lib.hid h0'
          have HB2 := Lib.hid hB2
          rw [hW2]
          clear hW2 hB2 h1 h0 hst h0' df d16 d7 w16 w7 n16 n7 t16 t7 m16 m7 y1 y2 y3 y4
          go_wp2_with fail
          have hval : ((x16 : Int) + s3 + x7 + s4) % 4294967296 = ((wd p t : Nat) : Int) := by rw [HN2.out]; omega
          rw [hval]
          exact ⟨⟨t + 1, by omega, by omega, by go_num, HST.out, H0''.out, HB2.out.setCell (by simp) _⟩, by simp [intOf]; omega⟩
        · have hd : decide ((t : Int) < 64) = false := by simp; omega
          have hfin : tabF (wst p t 0) = tabF (wd p) := tabF_congr fun i hi => wst_at p t i (by omega)
          rw [hfin] at h1
          clear hfin
          obtain ⟨tt, htt⟩ : ∃ tt, tabF (wd p) = tt := ⟨_, rfl⟩
          rw [htt] at h1
          have HT := Lib.hid htt
          have hi2 : (Tryz.prog.info? 220).map (·.size) = some tt.size := by rw [← htt, tabF_size]; exact info64
          have ho2 : tt.all (·.oneCell') = true := by rw [← htt]; exact tabA_one _
          have hs2 : zeros64.size = tt.size := by rw [← htt, tabF_size]; simp [zeros64]
          rw [← tabF_zero] at h0
          have HI := Lib.hid hi2
          have HO := Lib.hid ho2
          have HS := Lib.hid hs2
          have HC1 := Lib.hid h1
          have HC0 := Lib.hid h0
          clear hi2 ho2 hs2 htt h1 h0
          go_wp2_with (first | (refine wpList_store_row rfl 220 (.tmp 2) (.tmp 77) rfl w.heap.size rfl tt zeros64 rfl 220 HC0.out HI.out HS.out HO.out ?_) | refine wpList_load_row rfl 220 (.tmp 3) rfl (w.heap.size + 1) rfl 220 _ (0, 0) _ HC1.out Tryz.underlying220 rfl HI.out ?_)
          (try simp only [Exit.inBlock, Exit.then])
          exact bodyPost_ret (v := .agg tt) (results_cell_row rfl _ _ w.heap.size 220 tt (0, 0) _ rfl (setRow_heap _ _ _ _ _ _ HC0.out) Tryz.underlying220 rfl HI.out) rfl ⟨by rw [HT.out], below_setRow hW2 (Nat.le_refl _) _⟩
end Go.Proofs.YtbcamfbbooggfaaGreat.F
end

section
/- The words of the rounds and the first state, walked. -/
set_option linter.unusedVariables false
set_option linter.unusedSimpArgs false
set_option maxRecDepth 20000
namespace Go.Proofs.YtbcamfbbooggfaaGreat.F
open Go.RowKit Go.Proofs.YtbcamfbbooggfaaGreatW.PrintWords

theorem Kw_size : (tabA Kw).size = 64 := by simp [tabA, Kw]
section
variable {P : Program} {ops : Array Oper} {rest : List Oper} {o : Oper} {a : Act} {w : World} {Q : Exit → Act → World → Prop}
/-- A build whose value is told by its run. -/
theorem wpList_build (hgd : o.guard = none) (ty : TypeId) (fs : Array (Nat × Operand)) (ho : o.op = .build ty fs) (v : Value) (hrun : (execOp a.eval o).run P w = .ok (.value v) w) (h : wpList P ops Q rest (a.put o.dst v) w) : wpList P ops Q (o :: rest) a w :=
  wpList_plain hgd fun K hK => by
    unfold Oper.wp
    rw [hrun]
    exact hK _ _ h
end
theorem rounds_c (w : World) : Calls Tryz.prog 118 #[] w fun e w' => e = .returned (.agg (tabA Kw)) ∧ Below w.heap.size w w' := by
  have hz := zero64
  have hi2 : (Tryz.prog.info? 220).map (·.size) = some (tabA Kw).size := by rw [Kw_size]; exact info64
  have ho2 : (tabA Kw).all (·.oneCell') = true := tabA_one _
  have hs2 : zeros64.size = (tabA Kw).size := by rw [Kw_size]; simp [zeros64]
  have HI := Lib.hid hi2
  have HO := Lib.hid ho2
  have HS := Lib.hid hs2
  have hn := heap_alloc_new w (.cells zeros64 220)
  have HN := Lib.hid hn
  clear hi2 ho2 hs2 hn
  go_enter Tryz.func118, Tryz.ntmps118
  repeat (first | (refine wpList_build rfl _ _ rfl (.agg (tabA Kw)) (by kernel_rfl) ?_) | (refine wpList_store_row rfl 220 (.tmp 0) (.tmp 1) rfl w.heap.size rfl (tabA Kw) zeros64 rfl 220 HN.out HI.out HS.out HO.out ?_) | go_step)
  exact bodyPost_ret (v := .agg (tabA Kw)) (results_cell_row rfl _ _ w.heap.size 220 (tabA Kw) (0, 0) _ rfl (setRow_heap _ _ _ _ _ _ HN.out) Tryz.underlying220 rfl HI.out) rfl ⟨rfl, below_setRow ((Below.refl _ _).alloc (Nat.le_refl _) _) (Nat.le_refl _) _⟩
end Go.Proofs.YtbcamfbbooggfaaGreat.F
end

section
/- A region that draws its order, by what holds whatever has been done. -/
set_option linter.unusedVariables false
set_option linter.unusedSimpArgs false
namespace Go.Proofs.YtbcamfbbooggfaaGreat.F

theorem cnt_set : ∀ (l : List Bool) (i : Nat), l.getD i true = false → (l.set i true).countP (! ·) + 1 = l.countP (! ·)
  | [], i, h => by simp at h
  | b :: l, 0, h => by
    have hb : b = false := by simpa using h
    subst hb
    simp
  | b :: l, i + 1, h => by
    have ih := cnt_set l i (by simpa using h)
    simp only [List.set_cons_succ, List.countP_cons]
    omega
theorem cnt_pos : ∀ (l : List Bool) (i : Nat), l.getD i true = false → 0 < l.countP (! ·) := fun l i h => by have := cnt_set l i h; omega
section
variable {P : Program} {md : Region.Mode} {ops : Array Oper} {Q : Exit → Act → World → Prop}
theorem wpAny_inv {I : Array Bool → Act → World → Prop}
    (step : ∀ listed a w i, I listed a w → i ∈ Region.ready md ops listed → wpOp P ops Q i (I (listed.setIfInBounds i true)) a w)
    (fin : ∀ listed a w, I listed a w → Region.ready md ops listed = [] → Q .normal a w) :
    ∀ (fuel : Nat) (listed : Array Bool) (a : Act) (w : World), listed.toList.countP (! ·) = fuel → I listed a w → wpAny P md ops Q fuel listed a w := by
  intro fuel
  induction fuel with
  | zero =>
    intro listed a w hc h
    have hr : Region.ready md ops listed = [] := by
      cases hr : Region.ready md ops listed with
      | nil => rfl
      | cons j r =>
        exfalso
        have hj : j ∈ Region.ready md ops listed := by rw [hr]; simp
        have h1 := (mem_ready.1 hj).1
        have h2 := cnt_pos listed.toList j (by rw [← h1]; simp [Array.getD_eq_getD_getElem?, List.getD_eq_getElem?_getD])
        omega
    exact ⟨hr, fin listed a w h hr⟩
  | succ fuel ih =>
    intro listed a w hc h
    refine ⟨fun hr => fin listed a w h hr, fun i hi => ?_⟩
    have h1 := (mem_ready.1 hi).1
    have h2 := cnt_set listed.toList i (by rw [← h1]; simp [Array.getD_eq_getD_getElem?, List.getD_eq_getElem?_getD])
    refine wpOp_mono (fun a' w' h' => ih _ a' w' ?_ h') (step listed a w i h hi)
    rw [Array.toList_setIfInBounds]
    omega
theorem wp_region_inv {I : Array Bool → Act → World → Prop} {id : Nat} {a : Act} {w : World} (hm : P.follows .mixedOrders = true)
    (start : I (Array.replicate ops.size false) a w.drew)
    (step : ∀ listed a w i, I listed a w → i ∈ Region.ready .any ops listed → wpOp P ops Q i (I (listed.setIfInBounds i true)) a w)
    (fin : ∀ listed a w, I listed a w → Region.ready .any ops listed = [] → Q .normal a w) : (Code.region id ops true).wp P Q a w :=
  wp_region_any hm (wpAny_inv step fin _ _ _ _ (by simp [List.countP_replicate]) start)
end
end Go.Proofs.YtbcamfbbooggfaaGreat.F
end
