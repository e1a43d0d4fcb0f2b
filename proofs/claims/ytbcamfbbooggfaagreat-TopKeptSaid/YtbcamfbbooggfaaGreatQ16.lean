/- Part 16 of the proof: TM4. -/
import Derived.Test.YtbcamfbbooggfaaGreatQ15
import Derived.Test.YtbcamfbbooggfaaGreatQ13
import Derived.Test.YtbcamfbbooggfaaGreatQ02
import Derived.Test.YtbcamfbbooggfaaGreatQ14

/- Two containers, the same; what bytes say, by both: walked. -/
set_option linter.unusedVariables false
set_option linter.unusedSimpArgs false
namespace Go.Proofs.YtbcamfbbooggfaaGreat.F
open Go.RowKit Go.Proofs.YtbcamfbbooggfaaGreatW.PrintWords

def Slot256 (s : Sl) : Prop := s.1.length = 32 ∧ ∀ x ∈ s.1, x < 256
theorem parseP_slots (bs : List Nat) (hb : ∀ x ∈ bs, x < 256) : ∀ s ∈ (parseP bs).2.2.2, Slot256 s := by
  unfold parseP
  split
  · intro s hs; cases hs
  · rename_i h0
    obtain ⟨_, _, _, _, _, _, q7⟩ := headN_zero (Decidable.not_not.1 h0)
    unfold tableB
    split
    · intro s hs; cases hs
    split
    · intro s hs; cases hs
    split
    · intro s hs; cases hs
    intro s hs
    obtain ⟨i, hi, rfl⟩ := List.mem_map.1 hs
    have hi := List.mem_range.1 hi
    refine ⟨?_, fun x hx => hb x (List.mem_of_mem_drop (List.mem_of_mem_take hx))⟩
    show ((bs.drop _).take 32).length = 32
    rw [List.length_take, List.length_drop]
    omega

end Go.Proofs.YtbcamfbbooggfaaGreat.F

/- What a container's bytes say, and what is told of four bytes that are changed: plain law. -/
set_option linter.unusedVariables false
set_option linter.unusedSimpArgs false
namespace Go.Proofs.YtbcamfbbooggfaaGreat.F
open Go.RowKit Go.Proofs.YtbcamfbbooggfaaGreatW.PrintWords

theorem bigN_down (k n : Nat) : bigN (k + 1) n = bigN k (n / 256) ++ [n % 256] := by
  unfold bigN
  rw [List.range_succ, List.map_append]
  congr 1
  · apply List.map_congr_left
    intro t ht
    have ht := List.mem_range.1 ht
    rw [Nat.div_div_eq_div_mul, show 256 * 256 ^ (k - 1 - t) = 256 ^ (k + 1 - 1 - t) by rw [show k + 1 - 1 - t = (k - 1 - t) + 1 by omega, Nat.pow_succ, Nat.mul_comm]]
  · simp
theorem bigV_bigN : ∀ (k n : Nat), n < 256 ^ k → bigV (bigN k n) = n
  | 0, n, h => by
    have : n = 0 := by simpa using h
    subst this
    rfl
  | k + 1, n, h => by
    rw [bigN_down, bigV_snoc, bigV_bigN k (n / 256) (by rw [Nat.pow_succ] at h; omega)]
    omega
theorem hdV_mid {a b c : List Nat} {p k : Nat} (ha : a.length = p) (hb : b.length = k) : hdV (a ++ (b ++ c)) p k = bigV b := by
  unfold hdV
  rw [← ha, List.drop_left, ← hb, List.take_left]
theorem cut_mid {a b c : List Nat} {p k : Nat} (ha : a.length = p) (hb : b.length = k) : ((a ++ (b ++ c)).drop p).take k = b := by
  rw [← ha, List.drop_left, ← hb, List.take_left]
/-- What stands in the bytes, one behind the other. -/
theorem bytes_parts (id : Nat) (L : List (List Nat)) (z : List Nat) :
    bytesN id L ++ z = binN ++ (bigN 4 id ++ (bigN 2 L.length ++ (bigN 4 L.flatten.length ++ (bigN 4 (crcMore 0 (tableN L)) ++ (bigN 4 (crcMore 0 (head18 id L)) ++ (List.replicate 106 0 ++ (L.flatten ++ (tableN L ++ (List.replicate (padZ (bodyN id L).length) 0 ++ z))))))))) := by
  simp only [bytesN, bodyN, head22, head18, List.append_assoc]
theorem headN_bytes (id : Nat) (L : List (List Nat)) (z : List Nat) (hid : id < 4096) (h : Chunks L) : headN (bytesN id L ++ z) = 0 ∧
    hdV (bytesN id L ++ z) 4 4 = id ∧ hdV (bytesN id L ++ z) 8 2 = L.length ∧ hdV (bytesN id L ++ z) 10 4 = L.flatten.length ∧ hdV (bytesN id L ++ z) 14 4 = crcMore 0 (tableN L) := by
  have hf := h.flat.1
  have hc1 := crcMore_lt 0 (tableN L)
  have hc2 := crcMore_lt 0 (head18 id L)
  have hl := bytesN_len id L
  have h64 := h.1
  have hbin : binN.length = 4 := rfl
  have v4 : hdV (bytesN id L ++ z) 4 4 = id := by
    rw [bytes_parts, hdV_mid hbin (bigN_len 4 id), bigV_bigN 4 id (by omega)]
  have v8 : hdV (bytesN id L ++ z) 8 2 = L.length := by
    rw [bytes_parts, ← List.append_assoc, hdV_mid (by simp [binN, bigN_len]) (bigN_len 2 _), bigV_bigN 2 _ (by omega)]
  have v10 : hdV (bytesN id L ++ z) 10 4 = L.flatten.length := by
    rw [bytes_parts, ← List.append_assoc, ← List.append_assoc, hdV_mid (by simp [binN, bigN_len]) (bigN_len 4 _), bigV_bigN 4 _ (by omega)]
  have v14 : hdV (bytesN id L ++ z) 14 4 = crcMore 0 (tableN L) := by
    rw [bytes_parts, ← List.append_assoc, ← List.append_assoc, ← List.append_assoc, hdV_mid (by simp [binN, bigN_len]) (bigN_len 4 _), bigV_bigN 4 _ (by omega)]
  have e18 : bytesN id L ++ z = head18 id L ++ (bigN 4 (crcMore 0 (head18 id L)) ++ (List.replicate 106 0 ++ (L.flatten ++ (tableN L ++ (List.replicate (padZ (bodyN id L).length) 0 ++ z))))) := by
    simp only [bytesN, bodyN, head22, List.append_assoc]
  have v18 : hdV (bytesN id L ++ z) 18 4 = crcMore 0 (head18 id L) := by
    rw [e18, hdV_mid (head18_len id L) (bigN_len 4 _), bigV_bigN 4 _ (by omega)]
  have t18 : (bytesN id L ++ z).take 18 = head18 id L := by
    have := head18_len id L
    rw [e18, ← this, List.take_left]
  have t4 : (bytesN id L ++ z).take 4 = binN := by rw [bytes_parts, show (4 : Nat) = binN.length from rfl, List.take_left]
  have t106 : ((bytesN id L ++ z).drop 22).take 106 = List.replicate 106 0 := by
    rw [show bytesN id L ++ z = head22 id L ++ (List.replicate 106 0 ++ (L.flatten ++ (tableN L ++ (List.replicate (padZ (bodyN id L).length) 0 ++ z)))) by simp only [bytesN, bodyN, List.append_assoc]]
    exact cut_mid (head22_len id L) (by simp)
  refine ⟨?_, v4, v8, v10, v14⟩
  unfold headN
  rw [v4, v8, v10, v18, t18, t4, t106, if_neg (by rw [List.length_append, hl]; omega), if_neg (by simp), if_neg (by simp), if_neg (by decide), if_neg (by omega), if_neg (by rw [List.length_append, hl]; omega)]
theorem tableN_row (L : List (List Nat)) (i : Nat) (h : i < L.length) : tableN L = tableN (L.take i) ++ (rowN L[i] ++ tableN (L.drop (i + 1))) := by
  have e : L = L.take i ++ (L[i] :: L.drop (i + 1)) := by simp
  have h2 : tableN L = tableN (L.take i ++ (L[i] :: L.drop (i + 1))) := congrArg tableN e
  refine h2.trans ?_
  unfold tableN
  rw [List.flatMap_append, List.flatMap_cons]
theorem bytes_row (id : Nat) (L : List (List Nat)) (z : List Nat) (i : Nat) (h : i < L.length) : ((bytesN id L ++ z).drop (128 + L.flatten.length + 34 * i)).take 34 = rowN L[i] := by
  rw [show bytesN id L ++ z = (head22 id L ++ List.replicate 106 0 ++ L.flatten ++ tableN (L.take i)) ++ (rowN L[i] ++ (tableN (L.drop (i + 1)) ++ (List.replicate (padZ (bodyN id L).length) 0 ++ z))) by
    unfold bytesN
    rw [show bodyN id L = head22 id L ++ List.replicate 106 0 ++ L.flatten ++ (tableN (L.take i) ++ (rowN L[i] ++ tableN (L.drop (i + 1)))) by rw [← tableN_row L i h]; rfl]
    simp only [List.append_assoc]]
  refine cut_mid ?_ (rowN_len _)
  simp only [List.length_append, head22_len, List.length_replicate, tableN_len, List.length_take]
  omega
theorem slotB_bytes (id : Nat) (L : List (List Nat)) (z : List Nat) (hc : Chunks L) : ∀ i, i ≤ L.length → atB (bytesN id L ++ z) (128 + L.flatten.length) i = 128 + (L.take i).flatten.length
  | 0, _ => by simp [atB]
  | i + 1, h => by
    have hp := hc.2 _ (List.getElem_mem h)
    show atB _ _ i + longB _ _ i = _
    rw [slotB_bytes id L z hc i (by omega), flat_take L i h, ← rowB_long]
    unfold rowB
    rw [bytes_row id L z i h]
    have : hdV (rowN L[i]) 32 2 = L[i].length := by
      unfold rowN
      have := hdV_mid (c := []) (sumN_len L[i]) (bigN_len 2 L[i].length)
      rw [List.append_nil] at this
      rw [this, bigV_bigN 2 _ (by omega)]
    rw [this, Nat.add_assoc]
theorem longB_bytes (id : Nat) (L : List (List Nat)) (z : List Nat) (hc : Chunks L) (i : Nat) (h : i < L.length) : longB (bytesN id L ++ z) (128 + L.flatten.length) i = L[i].length := by
  have h1 := slotB_bytes id L z hc (i + 1) h
  have h2 := slotB_bytes id L z hc i (by omega)
  have h3 : atB (bytesN id L ++ z) (128 + L.flatten.length) (i + 1) = atB (bytesN id L ++ z) (128 + L.flatten.length) i + longB (bytesN id L ++ z) (128 + L.flatten.length) i := rfl
  have := flat_take L i h
  omega
theorem slotsB_bytes (id : Nat) (L : List (List Nat)) (z : List Nat) (hc : Chunks L) : slotsB (bytesN id L ++ z) (128 + L.flatten.length) L.length = slotsFrom sumN 128 L := by
  apply List.ext_getElem
  · rw [slotsB_len, slotsFrom_len]
  · intro i h1 h2
    have hi : i < L.length := by rwa [slotsB_len] at h1
    obtain ⟨a, ha, ha2⟩ := slots_get L i hi
    rw [ha, ha2]
    simp only [slotsB, List.getElem_map, List.getElem_range, slotB]
    rw [slotB_bytes id L z hc i (by omega), longB_bytes id L z hc i hi]
    congr 1
    have : ((bytesN id L ++ z).drop (128 + L.flatten.length + 34 * i)).take 32 = (rowB (bytesN id L ++ z) (128 + L.flatten.length) i).take 32 := (rowB_sum _ _ _).symm
    rw [this]
    unfold rowB
    rw [bytes_row id L z i hi]
    unfold rowN
    have hs := sumN_len L[i]
    rw [← hs, List.take_left]
theorem bytes_table (id : Nat) (L : List (List Nat)) (z : List Nat) : ((bytesN id L ++ z).drop (128 + L.flatten.length)).take (34 * L.length) = tableN L := by
  rw [show bytesN id L ++ z = (head22 id L ++ List.replicate 106 0 ++ L.flatten) ++ (tableN L ++ (List.replicate (padZ (bodyN id L).length) 0 ++ z)) by simp only [bytesN, bodyN, List.append_assoc]]
  refine cut_mid ?_ (tableN_len L)
  simp only [List.length_append, head22_len, List.length_replicate]
/-- PARSE OF BYTES HAS THE NUMBER AND THE SUMS. -/
theorem parse_bytes (id : Nat) (L : List (List Nat)) (z : List Nat) (hid : id < 4096) (hc : Chunks L) :
    parseP (bytesN id L ++ z) = (0, id, (128 + L.flatten.length + 34 * L.length + 127) / 128, slotsFrom sumN 128 L) := by
  obtain ⟨h0, v4, v8, v10, v14⟩ := headN_bytes id L z hid hc
  unfold parseP
  rw [if_neg (by rw [h0]; simp), v4, v8, v10, v14]
  unfold tableB
  rw [bytes_table, if_neg (by simp), if_neg (by
    refine fun h => h (fun i hi => ?_)
    have := hc.2 _ (List.getElem_mem hi)
    unfold okB
    rw [longB_bytes id L z hc i hi]
    exact ⟨this.1, this.2.1⟩), slotB_bytes id L z hc _ (Nat.le_refl _), if_neg (by simp), slotsB_bytes id L z hc]
theorem bytes_sectors (id : Nat) (L : List (List Nat)) : (128 + L.flatten.length + 34 * L.length + 127) / 128 * 128 = (bytesN id L).length := by
  rw [bytesN_len]
  unfold padZ
  omega
/-- Each chunk of it is what was added. -/
theorem chunk_bytes (id : Nat) (L : List (List Nat)) (hc : Chunks L) (i a : Nat) (h : i < L.length) (ha : a = 128 + (L.take i).flatten.length) : chunkA (bytesN id L) (sumN L[i]) (a : Int) (L[i].length : Int) = (0, L[i]) := by
  have hp := hc.2 _ (List.getElem_mem h)
  have hl := bytesN_len id L
  have hf := flat_take L i h
  have hle := flat_take_le L (i + 1)
  have hcut : ((bytesN id L).drop a).take L[i].length = L[i] := by
    have e : bytesN id L = (head22 id L ++ List.replicate 106 0) ++ (L.flatten ++ (tableN L ++ List.replicate (padZ (bodyN id L).length) 0)) := by simp only [bytesN, bodyN, List.append_assoc]
    have hx : (head22 id L ++ List.replicate 106 0).length = 128 := by simp [head22_len]
    have hm := flat_mid L i h
    rw [e, ha, ← List.drop_drop, ← hx, List.drop_left, List.drop_append_of_le_length (by omega), List.take_append_of_le_length (by rw [List.length_drop]; omega), hm]
  unfold chunkA
  rw [if_neg (by omega), if_neg (by omega), Int.toNat_natCast, Int.toNat_natCast, hcut, if_pos rfl]
end Go.Proofs.YtbcamfbbooggfaaGreat.F
