/- Part 27 of the proof: H9. -/
import Derived.Test.YtbcamfbbooggfaaGreatQ26

/- A chunk of a container that was sealed. -/
set_option linter.unusedVariables false
set_option linter.unusedSimpArgs false
namespace Go.Proofs.YtbcamfbbooggfaaGreat.F
open Go.RowKit Go.Proofs.YtbcamfbbooggfaaGreatW.PrintWords Go.Maps

theorem secs_take (B : List Nat) : ∀ N, ((List.range N).map (secN B)).flatten = B.take (N * 128)
  | 0 => by simp
  | N + 1 => by
    rw [List.range_succ, List.map_append, List.flatten_append, secs_take B N]
    simp only [List.map_cons, List.map_nil, List.flatten_cons, List.flatten_nil, List.append_nil]
    unfold secN
    rw [← List.take_add]
    congr 1
    omega
theorem secsN_bytes {sb : List (List Nat)} {dm : List (Nat × Sec × List Nat)} {at0 N : Nat} {B : List Nat} (h : ∀ i, i < N → readN sb dm (at0 + i) = secN B i) (hl : B.length = N * 128) : secsN sb dm at0 N = B := by
  unfold secsN
  have : (List.range N).map (fun i => readN sb dm (at0 + i)) = (List.range N).map (secN B) := List.map_congr_left fun i hi => h i (List.mem_range.1 hi)
  rw [this, secs_take, List.take_of_length_le (by omega)]
theorem slots_at (L : List (List Nat)) : ∀ (a : Nat) (j : Nat) (hj : j < (slotsFrom sumN a L).length) (h2 : j < L.length), (slotsFrom sumN a L)[j] = (sumN L[j], a + (L.take j).flatten.length, L[j].length) := by
  induction L with
  | nil => intro a j hj; simp [slotsFrom] at hj
  | cons p r ih =>
    intro a j hj h2
    cases j with
    | zero => simp [slotsFrom]
    | succ j =>
      have := ih (a + p.length) j (by simpa [slotsFrom] using hj) (by simpa using h2)
      simp only [slotsFrom, List.getElem_cons_succ, this, List.take_succ_cons, List.flatten_cons, List.length_append]
      rw [Nat.add_assoc]
theorem slots_ok {L : List (List Nat)} (hc : Chunks L) : ∀ q ∈ slotsFrom sumN 128 L, (q.1.length = 32 ∧ ∀ x ∈ q.1, x < 256) ∧ q.2.1 ≤ 1000000 ∧ q.2.2 ≤ 1000000 := by
  intro q hq
  obtain ⟨j, hj, rfl⟩ := List.getElem_of_mem hq
  have h2 : j < L.length := by rw [slotsFrom_len] at hj; exact hj
  rw [slots_at L 128 j hj h2]
  have h3 := hc.2 _ (List.getElem_mem h2)
  have h4 : (L.take j).flatten.length ≤ L.flatten.length := by
    have : L.flatten = (L.take j).flatten ++ (L.drop j).flatten := by rw [← List.flatten_append, List.take_append_drop]
    rw [this, List.length_append]
    omega
  have h5 := hc.flat.1
  exact ⟨⟨sumN_len _, sumN_lt _⟩, by show 128 + (L.take j).flatten.length ≤ _; omega, by show L[j].length ≤ _; omega⟩
theorem BChunkL_c {db gs mb er rb s n bn at0 N : Nat} {sb : List (List Nat)} {dm : List (Nat × Sec × List Nat)} {trip : Int} {life : Nat} {m : List (Nat × Sec × List Nat)} {x : List Nat} {L : List (List Nat)} (j : Nat) (w : World)
    (hd : DK w db gs mb n sb dm trip false life) (hs : SH w s db er rb m) (hk : lk m bn = some ((at0, N), x)) (hat : at0 + N ≤ n) (hc : Chunks L) (hN : N = (128 + L.flatten.length + 34 * L.length + 127) / 128)
    (hrd : ∀ i, i < N → readN sb dm (at0 + i) = secN (bytesN bn L) i) (hj : j < L.length) :
    Calls Tryz.prog 22 #[.pointer (some ⟨s, 0, none⟩), .int .i64 (bn : Nat), .int .i64 (j : Nat)] w fun e w' => ∃ A c, e = .returned (.tuple #[.slice A L[j].length c, .int .i64 0]) ∧ L[j].length ≤ c ∧ RN .u8 w' A L[j] ∧ Below w.heap.size w w' := by
  have hbn : bn < 4096 := hs.small _ (lk_mem hk)
  have hpp : parseP (bytesN bn L) = (0, bn, N, slotsFrom sumN 128 L) := by
    have := parse_bytes bn L [] hbn hc
    rw [List.append_nil] at this
    rw [this, hN]
  have hlen : (bytesN bn L).length = N * 128 := by rw [← bytes_sectors bn L, hN]
  have hjs : j < (slotsFrom sumN 128 L).length := by rw [slotsFrom_len]; exact hj
  have hsl := slots_at L 128 j hjs hj
  have hok := slots_ok hc
  refine BChunk_c (sl := slotsFrom sumN 128 L) (M := N) j L[j] w hd hs hk hat (secsN_bytes hrd hlen) hpp (bytesN_lt bn L hc.flat.2) (fun q hq => (hok q hq).1) hjs (fun q hq => (hok q hq).2) (by rw [slotsFrom_len]; have := hc.1; omega) ?_
  rw [hsl]
  exact chunk_bytes bn L hc j _ hj rfl
end Go.Proofs.YtbcamfbbooggfaaGreat.F
