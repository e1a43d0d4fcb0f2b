/- A text's sum, in plain numbers. -/
import Derived.WalkKit
set_option linter.unusedVariables false
set_option linter.unusedSimpArgs false
namespace Go.Proofs.Ytejmklfhcealnaa.F

/-- A word turned right. -/
def rotr (x n : Nat) : Nat := (x * 2 ^ (32 - n)) % 4294967296 ||| x / 2 ^ n
theorem rotr_lt (x n : Nat) (h : x < 4294967296) : rotr x n < 4294967296 :=
  Nat.or_lt_two_pow (n := 32) (Nat.mod_lt _ (by omega)) (Nat.lt_of_le_of_lt (Nat.div_le_self _ _) h)
def sg0 (x : Nat) : Nat := rotr x 7 ^^^ rotr x 18 ^^^ x / 8
def sg1 (x : Nat) : Nat := rotr x 17 ^^^ rotr x 19 ^^^ x / 1024
/-- The t-th word of a block. -/
def wd (p : List Nat) (t : Nat) : Nat :=
  if h : t < 16 then ((p.getD (4 * t) 0 * 256 + p.getD (4 * t + 1) 0) * 256 + p.getD (4 * t + 2) 0) * 256 + p.getD (4 * t + 3) 0
  else (wd p (t - 16) + sg0 (wd p (t - 15)) + wd p (t - 7) + sg1 (wd p (t - 2))) % 4294967296
termination_by t
decreasing_by all_goals omega
theorem wd_lo (p : List Nat) (t : Nat) (h : t < 16) : wd p t = ((p.getD (4 * t) 0 * 256 + p.getD (4 * t + 1) 0) * 256 + p.getD (4 * t + 2) 0) * 256 + p.getD (4 * t + 3) 0 := by rw [wd, dif_pos h]
theorem wd_hi (p : List Nat) (t : Nat) (h : ¬ t < 16) : wd p t = (wd p (t - 16) + sg0 (wd p (t - 15)) + wd p (t - 7) + sg1 (wd p (t - 2))) % 4294967296 := by rw [wd, dif_neg h]
theorem getD_lt {p : List Nat} {b : Nat} (hb : 0 < b) (hp : ∀ x ∈ p, x < b) (i : Nat) : p.getD i 0 < b := by
  rw [List.getD_eq_getElem?_getD]
  by_cases h : i < p.length
  · rw [List.getElem?_eq_getElem h]; exact hp _ (List.getElem_mem h)
  · rw [List.getElem?_eq_none (by omega)]; exact hb
theorem wd_lt {p : List Nat} (hp : ∀ x ∈ p, x < 256) (t : Nat) : wd p t < 4294967296 := by
  by_cases h : t < 16
  · rw [wd_lo p t h]
    have h0 := getD_lt (by omega) hp (4 * t)
    have h1 := getD_lt (by omega) hp (4 * t + 1)
    have h2 := getD_lt (by omega) hp (4 * t + 2)
    have h3 := getD_lt (by omega) hp (4 * t + 3)
    omega
  · rw [wd_hi p t h]
    exact Nat.mod_lt _ (by omega)

/-- A state: eight words. -/
structure St where
  (a b c d e f g h : Nat)
def St.ok (s : St) : Prop := s.a < 4294967296 ∧ s.b < 4294967296 ∧ s.c < 4294967296 ∧ s.d < 4294967296 ∧ s.e < 4294967296 ∧ s.f < 4294967296 ∧ s.g < 4294967296 ∧ s.h < 4294967296
def St.list (s : St) : List Nat := [s.a, s.b, s.c, s.d, s.e, s.f, s.g, s.h]
def big1 (x : Nat) : Nat := rotr x 6 ^^^ rotr x 11 ^^^ rotr x 25
def big0 (x : Nat) : Nat := rotr x 2 ^^^ rotr x 13 ^^^ rotr x 22
def cho (e f g : Nat) : Nat := g ^^^ (e &&& (f ^^^ g))
def maj (a b c : Nat) : Nat := (a &&& (b ||| c)) ||| (b &&& c)
def rnd (s : St) (k w : Nat) : St :=
  let x := (s.h + big1 s.e + cho s.e s.f s.g + k + w) % 4294967296
  let y := (big0 s.a + maj s.a s.b s.c) % 4294967296
  ⟨(x + y) % 4294967296, s.a, s.b, s.c, (s.d + x) % 4294967296, s.e, s.f, s.g⟩
def Kw : List Nat := [1116352408, 1899447441, 3049323471, 3921009573, 961987163, 1508970993, 2453635748, 2870763221, 3624381080, 310598401, 607225278, 1426881987, 1925078388, 2162078206, 2614888103, 3248222580, 3835390401, 4022224774, 264347078, 604807628, 770255983, 1249150122, 1555081692, 1996064986, 2554220882, 2821834349, 2952996808, 3210313671, 3336571891, 3584528711, 113926993, 338241895, 666307205, 773529912, 1294757372, 1396182291, 1695183700, 1986661051, 2177026350, 2456956037, 2730485921, 2820302411, 3259730800, 3345764771, 3516065817, 3600352804, 4094571909, 275423344, 430227734, 506948616, 659060556, 883997877, 958139571, 1322822218, 1537002063, 1747873779, 1955562222, 2024104815, 2227730452, 2361852424, 2428436474, 2756734187, 3204031479, 3329325298]
def rnds (s : St) (p : List Nat) : Nat → St
  | 0 => s
  | t + 1 => rnd (rnds s p t) (Kw.getD t 0) (wd p t)
def addS (s v : St) : St := ⟨(s.a + v.a) % 4294967296, (s.b + v.b) % 4294967296, (s.c + v.c) % 4294967296, (s.d + v.d) % 4294967296, (s.e + v.e) % 4294967296, (s.f + v.f) % 4294967296, (s.g + v.g) % 4294967296, (s.h + v.h) % 4294967296⟩
def mixS (s : St) (p : List Nat) : St := addS s (rnds s p 64)
theorem rnd_ok (s : St) (k w : Nat) (h : s.ok) : (rnd s k w).ok := by
  obtain ⟨h1, h2, h3, h4, h5, h6, h7, h8⟩ := h
  exact ⟨Nat.mod_lt _ (by omega), h1, h2, h3, Nat.mod_lt _ (by omega), h5, h6, h7⟩
theorem rnds_ok (s : St) (p : List Nat) (h : s.ok) : ∀ t, (rnds s p t).ok
  | 0 => h
  | t + 1 => rnd_ok _ _ _ (rnds_ok s p h t)
theorem addS_ok (s v : St) : (addS s v).ok := ⟨Nat.mod_lt _ (by omega), Nat.mod_lt _ (by omega), Nat.mod_lt _ (by omega), Nat.mod_lt _ (by omega), Nat.mod_lt _ (by omega), Nat.mod_lt _ (by omega), Nat.mod_lt _ (by omega), Nat.mod_lt _ (by omega)⟩
theorem mixS_ok (s : St) (p : List Nat) : (mixS s p).ok := addS_ok _ _
def beginS : St := ⟨1779033703, 3144134277, 1013904242, 2773480762, 1359893119, 2600822924, 528734635, 1541459225⟩
theorem beginS_ok : beginS.ok := by unfold St.ok beginS; refine ⟨?_, ?_, ?_, ?_, ?_, ?_, ?_, ?_⟩ <;> dsimp only <;> omega
/-- The state behind n blocks. -/
def mixes (s : St) (m : List Nat) : Nat → St
  | 0 => s
  | n + 1 => mixS (mixes s m n) ((m.drop (64 * n)).take 64)
theorem mixes_ok {s : St} (h : s.ok) (m : List Nat) : ∀ n, (mixes s m n).ok
  | 0 => h
  | n + 1 => mixS_ok _ _
theorem mixes_add (s : St) (m : List Nat) (a : Nat) : ∀ n, mixes s m (a + n) = mixes (mixes s m a) (m.drop (64 * a)) n
  | 0 => rfl
  | n + 1 => by
    show mixS (mixes s m (a + n)) ((m.drop (64 * (a + n))).take 64) = mixS (mixes (mixes s m a) (m.drop (64 * a)) n) (((m.drop (64 * a)).drop (64 * n)).take 64)
    rw [mixes_add s m a n, List.drop_drop, show 64 * (a + n) = 64 * a + 64 * n by omega]
theorem mixes_app (s : St) (m r : List Nat) : ∀ n, 64 * n ≤ m.length → mixes s (m ++ r) n = mixes s m n
  | 0, _ => rfl
  | n + 1, h => by
    show mixS (mixes s (m ++ r) n) (((m ++ r).drop (64 * n)).take 64) = mixS (mixes s m n) ((m.drop (64 * n)).take 64)
    rw [mixes_app s m r n (by omega), List.drop_append_of_le_length (by omega), List.take_append_of_le_length (by rw [List.length_drop]; omega)]
/-- What is laid behind n bytes. -/
def padN (n : Nat) : List Nat := 128 :: List.replicate ((119 - n % 64) % 64) 0 ++ (List.range 8).map fun i => n * 8 / 2 ^ (56 - 8 * i) % 256
theorem padN_len (n : Nat) : (n + (padN n).length) % 64 = 0 := by
  unfold padN
  simp
  omega
def bytesS (s : St) : List Nat := s.list.flatMap fun x => [x / 16777216 % 256, x / 65536 % 256, x / 256 % 256, x % 256]
/-- A text's sum. -/
def shaN (p : List Nat) : List Nat := bytesS (mixes beginS (p ++ padN p.length) ((p.length + (padN p.length).length) / 64))

theorem tb_lt (x n : Nat) (h : x < 2 ^ n) (i : Nat) (hi : n ≤ i) : x.testBit i = false := Nat.testBit_lt_two_pow (Nat.lt_of_lt_of_le h (Nat.pow_le_pow_right (by omega) hi))
/-- The other spelling of the choice: the complement is over 32 bits. -/
theorem cho_eq (e f g : Nat) (he : e < 4294967296) (hf : f < 4294967296) (hg : g < 4294967296) : (e &&& f) ^^^ ((4294967295 - e) &&& g) = cho e f g := by
  unfold cho
  apply Nat.eq_of_testBit_eq
  intro i
  have hc : (4294967295 - e).testBit i = (decide (i < 32) && !e.testBit i) := by rw [show 4294967295 - e = 2 ^ 32 - (e + 1) by omega]; exact Nat.testBit_two_pow_sub_succ (n := 32) he i
  simp only [Nat.testBit_xor, Nat.testBit_and, hc]
  by_cases hi : i < 32
  · simp only [hi]
    cases e.testBit i <;> cases f.testBit i <;> cases g.testBit i <;> rfl
  · rw [tb_lt e 32 he i (by omega), tb_lt f 32 hf i (by omega), tb_lt g 32 hg i (by omega)]
    simp
theorem maj_eq (a b c : Nat) : (a &&& b) ^^^ (a &&& c) ^^^ (b &&& c) = maj a b c := by
  unfold maj
  apply Nat.eq_of_testBit_eq
  intro i
  simp only [Nat.testBit_xor, Nat.testBit_and, Nat.testBit_or]
  cases a.testBit i <;> cases b.testBit i <;> cases c.testBit i <;> rfl
end Go.Proofs.Ytejmklfhcealnaa.F
