/- ParityChecks, walked. -/
import Derived.Test.YtdmfecaejdiihaaQx
set_option linter.unusedVariables false
set_option linter.unusedSimpArgs false
namespace Go.Proofs.Ytdmfecaejdiihaa.F
open Go.RowKit Go.Proofs.YtdmfecaejdiihaaW.PrintWords

theorem rr_of_sv {W : World} {A : Option Addr} {sv : List SD} {css : List (List Nat)} (h : SV W A sv) (hf : Cs W sv css) (hl : sv.length = css.length) : RR W A css := by
  refine ⟨by rw [← hl]; exact h.1, fun hp => ?_⟩
  obtain ⟨ad, e, _, hc⟩ := h.2 (by omega)
  refine ⟨ad, e, fun i hi => ?_⟩
  obtain ⟨h1, h2, h3⟩ := hf i (by omega)
  rw [show css.getD i [] = css[i] by simp [List.getD_eq_getElem?_getD, hi]] at h1 h2 h3
  exact ⟨sv[i].1, sv[i].2.2, by rw [hc i (by omega), h2], h3, h1⟩
theorem repOut_bt {sv : List SD} {css : List (List Nat)} {k L : Nat} (hb : ∀ i, ∀ y ∈ css.getD i [], y < 256) : Bt (repOut sv css k L) := fun cs hcs => by
  unfold repOut at hcs
  split at hcs
  · obtain ⟨x, _, rfl⟩ := List.mem_map.1 hcs
    exact atV_lt (fun c hc => by obtain ⟨j, _, rfl⟩ := List.mem_map.1 hc; exact hb j)
  · simp at hcs
theorem repEr_zero {sv : List SD} {k : Nat} (h : repEr sv k = 0) : wrongV (heldLens sv) = 0 ∧ k ≤ (hidx sv sv.length).length := by
  unfold repEr at h
  split at h
  · rename_i h1
    refine ⟨h1, ?_⟩
    split at h
    · assumption
    · cases h
  · contradiction
theorem chkE_zero {er : Int} {sv : List SD} (h : chkE er sv = 0) : er = 0 ∧ ¬ HasNil sv := by
  unfold chkE at h
  split at h
  · rename_i h1
    refine ⟨h1, fun hn => ?_⟩
    rw [if_pos hn] at h
    cases h
  · contradiction
theorem not_nil_all {sv : List SD} (h : ¬ HasNil sv) : ∀ i (hi : i < sv.length), sv[i].1.isSome = true := fun i hi => by
  cases e : sv[i].1 with
  | none => exact absurd ⟨_, List.getElem_mem hi, e⟩ h
  | some a => rfl
theorem all_not_nil {sv : List SD} (h : ∀ i (hi : i < sv.length), sv[i].1.isSome = true) : ¬ HasNil sv := fun ⟨x, hx, e⟩ => by
  obtain ⟨i, hi, rfl⟩ := List.getElem_of_mem hx
  have := h i hi
  rw [e] at this
  cases this
theorem set_some {sv : List SD} (i : Nat) (h : SD) (hs : h.1.isSome = true) (hall : ∀ i (hi : i < sv.length), sv[i].1.isSome = true) : ∀ j (hj : j < (sv.set i h).length), (sv.set i h)[j].1.isSome = true := fun j hj => by
  rw [List.getElem_set]
  split
  · exact hs
  · exact hall j (by simpa using hj)
theorem set_lens {sv : List SD} {css : List (List Nat)} {L : Nat} (i : Nat) (hall : ∀ j, j < sv.length → (css.getD j []).length = L) : ∀ j (hj : j < (sv.set i (none, 0, 0)).length), (sv.set i (none, 0, 0))[j].1.isSome = true → ((css.set i []).getD j []).length = L := fun j hj hs => by
  rw [List.length_set] at hj
  by_cases e : j = i
  · subst e
    simp at hs
  · rw [getD_set_ne _ _ _ _ e]
    exact hall j hj
theorem set_small {sv : List SD} (i : Nat) (hsv : ∀ x ∈ sv, x.2.1 ≤ 4096) : ∀ x ∈ sv.set i (none, 0, 0), x.2.1 ≤ 4096 := fun x hx => by
  rcases List.mem_or_eq_of_mem_set hx with h | rfl
  · exact hsv x h
  · simp
theorem set_bt {css : List (List Nat)} (i : Nat) (xs : List Nat) (hb : Bt css) (hx : ∀ y ∈ xs, y < 256) : Bt (css.set i xs) := fun cs hcs => by
  rcases List.mem_or_eq_of_mem_set hcs with h | rfl
  · exact hb cs h
  · exact hx
theorem grpR_zero (css : List (List Nat)) (P : List Nat) (cs2 : List (List Nat)) (h : ∀ j, j < cs2.length → (cs2.getD j []).length = 0) : grpR css P 0 cs2.length = cs2 := by
  apply List.ext_getElem
  · rw [grpR_len]
  · intro i h1 h2
    have h3 := h i h2
    rw [show cs2.getD i [] = cs2[i] by simp [List.getD_eq_getElem?_getD, h2]] at h3
    rw [List.eq_nil_of_length_eq_zero h3]
    have h4 := grpR_getD css P 0 cs2.length i h2
    rw [List.getD_eq_getElem?_getD, List.getElem?_eq_getElem h1] at h4
    simpa [atV] using h4
/-- A shard told by the others, and the group with it. -/
theorem told (sv : List SD) (css : List (List Nat)) (k L i : Nat) (h : SD) (hl : sv.length = css.length) (hn : css.length ≤ 256) (hk : k ≤ css.length) (hi : i < sv.length) (hb : Bt css) (hs : h.1.isSome = true)
    (hall : ∀ j (hj : j < sv.length), sv[j].1.isSome = true) (hlens : ∀ j, j < sv.length → (css.getD j []).length = L) (hsl : ∀ j (hj : j < sv.length), sv[j].2.1 = L) (hhl : h.2.1 = L)
    (he : repEr (sv.set i (none, 0, 0)) k = 0) :
    chkE (repEr (sv.set i h) k) (sv.set i h) = 0 ∧
    chkB (repOut (sv.set i h) (css.set i ((repOut (sv.set i (none, 0, 0)) (css.set i []) k L).getD i [])) k L) (repEr (sv.set i h) k) (sv.set i h) (css.set i ((repOut (sv.set i (none, 0, 0)) (css.set i []) k L).getD i [])) =
      decide (SameBut (repOut (sv.set i (none, 0, 0)) (css.set i []) k L) css i sv.length) := by
  have hsome := set_some i h hs hall
  have hnil : ¬ HasNil (sv.set i h) := all_not_nil hsome
  have hidx2 : hidx (sv.set i h) (sv.set i h).length = List.range sv.length := by rw [hidx_all _ hsome, List.length_set]
  have hw2 : wrongV (heldLens (sv.set i h)) = 0 := wrongV_zero (fun a ha b hb => by
    have q : ∀ a ∈ heldLens (sv.set i h), a = L := fun a ha => by
      obtain ⟨j, hj, _, rfl⟩ := held_of ha
      rw [List.getElem_set]
      split
      · exact hhl
      · exact hsl j (by simpa using hj)
    rw [q a ha, q b hb])
  have her : repEr (sv.set i h) k = 0 := by
    unfold repEr
    rw [if_pos hw2, hidx2, if_pos (by simp; omega)]
  obtain ⟨hw1, hk1⟩ := repEr_zero he
  rw [List.length_set] at hk1
  refine ⟨by rw [her]; unfold chkE; rw [if_pos rfl, if_neg hnil], ?_⟩
  obtain ⟨P, hPd⟩ : ∃ P, (hidx (sv.set i (none, 0, 0)) sv.length).take k = P := ⟨_, rfl⟩
  have hP : ∀ z ∈ P, z < css.length ∧ z ≠ i := fun z hz => by
    rw [← hPd] at hz
    have hz := List.mem_of_mem_take hz
    refine ⟨by have := hidx_lt _ _ z hz; omega, fun e => ?_⟩
    subst e
    have := (List.mem_filter.1 hz).2
    simp [List.getD_eq_getElem?_getD, hi] at this
  have hnd : P.Nodup := by rw [← hPd]; exact List.Sublist.nodup (List.take_sublist _ _) (hidx_nodup _ _)
  have hPl : P.length = k := by rw [← hPd, List.length_take]; omega
  have ho : repOut (sv.set i (none, 0, 0)) (css.set i []) k L = grpR (P.map fun j => css.getD j []) P L css.length := by
    unfold repOut
    rw [if_pos ⟨hw1, by rw [List.length_set]; exact hk1⟩, List.length_set, hPd, hl]
    congr 1
    exact List.map_congr_left fun j hj => getD_set_ne _ _ _ _ (hP j hj).2
  rw [ho]
  have hp := locate_plain css k L i hb hn hk (by omega) P hP hnd hPl
  obtain ⟨x, hx⟩ : ∃ x, css.set i ((grpR (P.map fun j => css.getD j []) P L css.length).getD i []) = x := ⟨_, rfl⟩
  rw [hx] at hp ⊢
  have ho2 : repOut (sv.set i h) x k L = grpR ((List.range k).map fun j => x.getD j []) (List.range k) L css.length := by
    unfold repOut
    rw [if_pos ⟨hw2, by rw [hidx2]; simp; omega⟩, hidx2, List.length_set, List.take_range, Nat.min_eq_left (by omega), hl]
  unfold chkB
  rw [if_pos ⟨her, hnil⟩, ho2]
  rw [Bool.eq_iff_iff, decide_eq_true_iff, decide_eq_true_iff, hp, hl]
  rfl
/-- What a Locate answers. -/
def LocAns (lv : Int × Int) (w : World) (e : Ending) (w' : World) : Prop := e = .returned (.tuple #[.int .i64 lv.1, .int .i64 lv.2]) ∧ Below w.heap.size w w'
theorem common_len (sv : List SD) (css : List (List Nat)) (hsv : ∀ x ∈ sv, x.2.1 ≤ 4096) (hll : ∀ i (h : i < sv.length), sv[i].2.1 = (css.getD i []).length) : ∃ L, L ≤ 4096 ∧ (wrongV (heldLens sv) = 0 → ∀ i (h : i < sv.length), sv[i].1.isSome = true → (css.getD i []).length = L) := by
  by_cases h0 : wrongV (heldLens sv) = 0
  · by_cases hh : ∃ i, ∃ h : i < sv.length, sv[i].1.isSome = true
    · obtain ⟨i, hi, hs⟩ := hh
      refine ⟨sv[i].2.1, hsv _ (List.getElem_mem _), fun _ j hj hjs => ?_⟩
      rw [← hll j hj]
      by_cases he : sv[j].2.1 = sv[i].2.1
      · exact he
      · have := wrongV_four (held_mem hj hjs) (held_mem hi hs) he
        omega
    · exact ⟨0, by omega, fun _ i hi hs => absurd ⟨i, hi, hs⟩ hh⟩
  · exact ⟨0, by omega, fun h => absurd h h0⟩
theorem Check_any (sv : List SD) (css : List (List Nat)) (k : Int) (hl : sv.length = css.length) (hmx : (sv.length : Int) ≤ 9223372036854775807) (hsv : ∀ x ∈ sv, x.2.1 ≤ 4096) (hb : Bt css) (hll : ∀ i (h : i < sv.length), sv[i].2.1 = (css.getD i []).length) : ∃ (b : Bool) (er : Int),
    (∀ A c w, SV w A sv → Cs w sv css → Calls Try.prog 14 #[.slice A sv.length c, .int .i64 k] w (ChkAns b er w)) ∧
    (∀ A c w, SV w A sv → Cs w sv css → Calls Try.prog 15 #[.slice A sv.length c, .int .i64 k] w (ChkAns b er w)) := by
  by_cases hbad : k < 1 ∨ 32 < k ∨ (sv.length : Int) < k ∨ 16 < (sv.length : Int) - k
  · exact ⟨chkB [] 2 sv css, chkE 2 sv, fun A c w hI hcs => Check_c A c sv css k [] 2 w hI hcs (rr_of_sv hI hcs hl) hl (fun _ h => by simp at h) hb (Repair_bad A c sv k w hmx hbad),
      fun A c w hI hcs => rCheck_c A c sv css k [] 2 w hI (rr_of_sv hI hcs hl) hl (fun _ h => by simp at h) hb (rRepair_bad A c sv k w hmx (by omega))⟩
  · obtain ⟨kn, rfl⟩ : ∃ kn : Nat, k = kn := ⟨k.toNat, by omega⟩
    obtain ⟨L, hL2, hL⟩ := common_len sv css hsv hll
    exact ⟨chkB (repOut sv css kn L) (repEr sv kn) sv css, chkE (repEr sv kn) sv,
      fun A c w hI hcs => Check_c A c sv css kn (repOut sv css kn L) (repEr sv kn) w hI hcs (rr_of_sv hI hcs hl) hl (repOut_bt (getD_bt hb)) hb (callsIn_wide.1 (Repair_in A c sv css kn L w hI hcs (by omega) (by omega) (by omega) (by omega) hsv (getD_bt hb) hL hL2)),
      fun A c w hI hcs => rCheck_c A c sv css kn (repOut sv css kn L) (repEr sv kn) w hI (rr_of_sv hI hcs hl) hl (repOut_bt (getD_bt hb)) hb (rRepair_c A c sv css kn L w hI hcs (by omega) (by omega) (by omega) (by omega) hsv (getD_bt hb) hL hL2)⟩
theorem Locate_any (sv : List SD) (css : List (List Nat)) (k : Int) (hl : sv.length = css.length) (hn : sv.length ≤ 16) (hsv : ∀ x ∈ sv, x.2.1 ≤ 4096) (hb : Bt css) (hll : ∀ i (h : i < sv.length), sv[i].2.1 = (css.getD i []).length) : ∃ lv : Int × Int,
    (∀ A c w, SV w A sv → Cs w sv css → Calls Try.prog 16 #[.slice A sv.length c, .int .i64 k] w (LocAns lv w)) ∧
    (∀ A c w, SV w A sv → Cs w sv css → Calls Try.prog 17 #[.slice A sv.length c, .int .i64 k] w (LocAns lv w)) := by
  have hmx : (sv.length : Int) ≤ 9223372036854775807 := by omega
  by_cases hbad : k < 1 ∨ 32 < k ∨ (sv.length : Int) < k ∨ 16 < (sv.length : Int) - k
  · have h2 : chkE 2 sv ≠ 0 := by unfold chkE; rw [if_neg (by decide)]; decide
    refine ⟨locV (chkB [] 2 sv css) (chkE 2 sv) (fun i => (0 : Int) == 0 && decide (SameBut [] css i sv.length)) sv.length, fun A c w hI hcs => ?_, fun A c w hI hcs => ?_⟩
    · exact Locate_c A c sv.length k _ _ _ w (by omega) (Check_c A c sv css k [] 2 w hI hcs (rr_of_sv hI hcs hl) hl (fun _ h => by simp at h) hb (Repair_bad A c sv k w hmx hbad)) (fun h => absurd h h2)
    · exact rLocate_c A c k _ _ sv css (fun _ => []) (fun _ => 0) w hI hcs hl (by omega) hb (rCheck_c A c sv css k [] 2 w hI (rr_of_sv hI hcs hl) hl (fun _ h => by simp at h) hb (rRepair_bad A c sv k w hmx (by omega))) (fun h => absurd h h2) (fun h => absurd h h2)
  · obtain ⟨kn, rfl⟩ : ∃ kn : Nat, k = kn := ⟨k.toNat, by omega⟩
    obtain ⟨L, hL2, hL⟩ := common_len sv css hsv hll
    have facts : chkE (repEr sv kn) sv = 0 → chkB (repOut sv css kn L) (repEr sv kn) sv css = false → (∀ j (hj : j < sv.length), sv[j].1.isSome = true) ∧ (∀ j, j < sv.length → (css.getD j []).length = L) ∧ 0 < L := fun h0 hbf => by
      obtain ⟨her, hnil⟩ := chkE_zero h0
      have hall := not_nil_all hnil
      obtain ⟨hw, hkk⟩ := repEr_zero her
      have hlens : ∀ j, j < sv.length → (css.getD j []).length = L := fun j hj => hL hw j hj (hall j hj)
      refine ⟨hall, hlens, Nat.pos_of_ne_zero fun hz => ?_⟩
      subst hz
      unfold chkB at hbf
      rw [if_pos ⟨her, hnil⟩] at hbf
      have hne := of_decide_eq_false hbf
      apply hne
      unfold repOut
      rw [if_pos ⟨hw, hkk⟩, hl]
      exact grpR_zero _ _ css (fun j hj => hlens j (by omega))
    have hrep1 : (∀ j, j < sv.length → (css.getD j []).length = L) → ∀ i, i < sv.length → ∀ A c w, SV w A (sv.set i (none, 0, 0)) → Cs w (sv.set i (none, 0, 0)) (css.set i []) → Calls Try.prog 12 #[.slice A sv.length c, .int .i64 kn] w (EncAns (repOut (sv.set i (none, 0, 0)) (css.set i []) kn L) (repEr (sv.set i (none, 0, 0)) kn) w) := fun hlens i hi A c w hI hcs => by
      have h := Repair_in A c (sv.set i (none, 0, 0)) (css.set i []) kn L w hI hcs (by omega) (by omega) (by rw [List.length_set]; omega) (by rw [List.length_set]; omega) (set_small i hsv) (getD_bt (set_bt i [] hb (fun y h => by simp at h))) (fun _ => set_lens i hlens) hL2
      rw [List.length_set] at h
      exact callsIn_wide.1 h
    have hrep2 : (∀ j, j < sv.length → (css.getD j []).length = L) → ∀ i, i < sv.length → ∀ A c w, SV w A (sv.set i (none, 0, 0)) → Cs w (sv.set i (none, 0, 0)) (css.set i []) → Calls Try.prog 13 #[.slice A sv.length c, .int .i64 kn] w (EncAns (repOut (sv.set i (none, 0, 0)) (css.set i []) kn L) (repEr (sv.set i (none, 0, 0)) kn) w) := fun hlens i hi A c w hI hcs => by
      have h := rRepair_c A c (sv.set i (none, 0, 0)) (css.set i []) kn L w hI hcs (by omega) (by omega) (by rw [List.length_set]; omega) (by rw [List.length_set]; omega) (set_small i hsv) (getD_bt (set_bt i [] hb (fun y h => by simp at h))) (fun _ => set_lens i hlens) hL2
      rw [List.length_set] at h
      exact h
    have hout : ∀ i, repEr (sv.set i (none, 0, 0)) kn = 0 → (repOut (sv.set i (none, 0, 0)) (css.set i []) kn L).length = sv.length ∧ (∀ j, j < sv.length → ((repOut (sv.set i (none, 0, 0)) (css.set i []) kn L).getD j []).length = L) := fun i he => by
      obtain ⟨h1, h2⟩ := repEr_zero he
      unfold repOut
      rw [if_pos ⟨h1, h2⟩, List.length_set]
      refine ⟨grpR_len _ _ _ _, fun j hj => ?_⟩
      rw [grpR_getD _ _ _ _ _ hj]
      simp [atV]
    have hobt : ∀ i, Bt (repOut (sv.set i (none, 0, 0)) (css.set i []) kn L) := fun i => repOut_bt (getD_bt (set_bt i [] hb (fun y h => by simp at h)))
    refine ⟨locV (chkB (repOut sv css kn L) (repEr sv kn) sv css) (chkE (repEr sv kn) sv) (fun i => repEr (sv.set i (none, 0, 0)) kn == 0 && decide (SameBut (repOut (sv.set i (none, 0, 0)) (css.set i []) kn L) css i sv.length)) sv.length, fun A c w hI hcs => ?_, fun A c w hI hcs => ?_⟩
    · refine Locate_c A c sv.length kn _ _ _ w (by omega) (Check_c A c sv css kn (repOut sv css kn L) (repEr sv kn) w hI hcs (rr_of_sv hI hcs hl) hl (repOut_bt (getD_bt hb)) hb (callsIn_wide.1 (Repair_in A c sv css kn L w hI hcs (by omega) (by omega) (by omega) (by omega) hsv (getD_bt hb) hL hL2))) (fun h0 hbf i hi w' hw' => ?_)
      obtain ⟨hall, hlens, hLp⟩ := facts h0 hbf
      refine without_c A c sv css kn i _ _ _ w' (hI.below hw') (hcs.below hw') hl hi (by omega) (hrep1 hlens i hi) (fun he => by rw [(hout i he).1]; exact hi) (fun he A c w hh hI2 hcs2 hs => ?_) (fun he => by rw [(hout i he).2 i hi]; exact hLp)
      have hhl : hh.2.1 = L := by
        have h := (hcs2 i (by rw [List.length_set]; exact hi)).2.1
        rw [getD_set_eq _ _ _ (by omega), (hout i he).2 i hi] at h
        simpa using h
      obtain ⟨t1, t2⟩ := told sv css kn L i hh hl (by omega) (by omega) hi hb hs hall hlens (fun j hj => by rw [hll j hj]; exact hlens j hj) hhl he
      have hx : ∀ y ∈ (repOut (sv.set i (none, 0, 0)) (css.set i []) kn L).getD i [], y < 256 := getD_bt (hobt i) i
      have hl2 : (sv.set i hh).length = (css.set i ((repOut (sv.set i (none, 0, 0)) (css.set i []) kn L).getD i [])).length := by rw [List.length_set, List.length_set]; exact hl
      have hb2 := set_bt i _ hb hx
      have hsv2 : ∀ x ∈ sv.set i hh, x.2.1 ≤ 4096 := fun x hx => by
        rcases List.mem_or_eq_of_mem_set hx with h | rfl
        · exact hsv x h
        · omega
      have hLL : ∀ j (hj : j < (sv.set i hh).length), (sv.set i hh)[j].1.isSome = true → ((css.set i ((repOut (sv.set i (none, 0, 0)) (css.set i []) kn L).getD i [])).getD j []).length = L := fun j hj0 _ => by
        have hj : j < sv.length := by simpa using hj0
        by_cases e : j = i
        · subst e
          rw [getD_set_eq _ _ _ (by omega)]
          exact (hout j he).2 j hj
        · rw [getD_set_ne _ _ _ _ e]
          exact hlens j hj
      have hr := Repair_in A c (sv.set i hh) _ kn L w hI2 hcs2 (by omega) (by omega) (by rw [List.length_set]; omega) (by rw [List.length_set]; omega) hsv2 (getD_bt hb2) (fun _ => hLL) hL2
      have hc := Check_c A c (sv.set i hh) _ kn _ _ w hI2 hcs2 (rr_of_sv hI2 hcs2 hl2) hl2 (repOut_bt (getD_bt hb2)) hb2 (callsIn_wide.1 hr)
      rw [t1, t2, List.length_set] at hc
      exact hc
    · exact rLocate_c A c kn _ _ sv css _ _ w hI hcs hl (by omega) hb (rCheck_c A c sv css kn (repOut sv css kn L) (repEr sv kn) w hI (rr_of_sv hI hcs hl) hl (repOut_bt (getD_bt hb)) hb (rRepair_c A c sv css kn L w hI hcs (by omega) (by omega) (by omega) (by omega) hsv (getD_bt hb) hL hL2))
        (fun h0 hbf i hi => hrep2 (facts h0 hbf).2.1 i hi) (fun _ _ i hi he => ⟨(hout i he).1, hobt i⟩)
end Go.Proofs.Ytdmfecaejdiihaa.F

/- ParityChecks, walked. -/
set_option linter.unusedVariables false
set_option linter.unusedSimpArgs false
namespace Go.Proofs.Ytdmfecaejdiihaa.F
open Go.RowKit Go.Proofs.YtdmfecaejdiihaaW.PrintWords

set_option maxRecDepth 20000 in
set_option maxHeartbeats 4000000 in
theorem ParityChecks_walk (A : Option Addr) (c : Nat) (css : List (List Nat)) (k : Int) (w : World) (hr : RR w A css) (hb : ∀ x ∈ css.flatten, x < 256) :
    Calls Try.prog 6 #[.slice A css.length c, .int .i64 k] w fun e w' => e = .returned (.bool true) ∧ Below w.heap.size w w' := by
  have hmx := hr.max
  obtain ⟨sv, hsl, hI, hcs⟩ := sv_of_rr hr
  have hbt : Bt css := fun cs hcs y hy => hb y (List.mem_flatten.2 ⟨cs, hcs, hy⟩)
  have HRR := Lib.hid hr
  have HB := Lib.hid hbt
  have HI := Lib.hid hI
  have HCS := Lib.hid hcs
  have HSL := Lib.hid hsl
  clear hr hb hI hcs hsl hbt
  go_enter Try.func6, Try.ntmps6
  go_wp2_with fail
  refine (few_c A c css 200 w HRR.out (by omega)).mono ?_
  rintro e w1 ⟨b, rfl, hbt, rfl⟩
  cases b with
  | false =>
    clear hbt
    go_wp2_with fail
    refine (live_c _).mono ?_
    rintro e w2 ⟨rfl, hb2⟩
    have HB2 := Lib.hid hb2
    clear hb2
    go_wp2_with fail
    go_ret
    exact ⟨rfl, HB2.out⟩
  | true =>
    have hfl := (hbt rfl).1
    have hsv : ∀ x ∈ sv, x.2.1 ≤ 4096 := fun x hx => by
      obtain ⟨i, hi, rfl⟩ := List.getElem_of_mem hx
      rw [(HCS.out i hi).2.1]
      have := len_at css i
      omega
    obtain ⟨b, er, h1, h2⟩ := Check_any sv css k HSL.out (by rw [HSL.out]; exact hmx) hsv HB.out (fun i hi => (HCS.out i hi).2.1)
    have hloc := fun hn => Locate_any sv css k HSL.out hn hsv HB.out (fun i hi => (HCS.out i hi).2.1)
    rw [HSL.out] at h1 h2 hloc
    have H1 := Lib.hid h1
    have H2 := Lib.hid h2
    have HLOC := Lib.hid hloc
    clear hbt h1 h2 hloc hsv
    go_wp2_with fail
    refine (H1.out A c _ HI.out HCS.out).mono ?_
    rintro e w2 ⟨rfl, hb2⟩
    have HI2 := Lib.hid (HI.out.below hb2)
    have HCS2 := Lib.hid (HCS.out.below hb2)
    have HB2 := Lib.hid hb2
    clear hb2
    go_wp2_with fail
    refine (H2.out A c _ HI2.out HCS2.out).mono ?_
    rintro e w3 ⟨rfl, hb3⟩
    have HI3 := Lib.hid (HI2.out.below hb3)
    have HCS3 := Lib.hid (HCS2.out.below hb3)
    have HB3 := Lib.hid (HB2.out.trans (hb3.mono HB2.out.size))
    clear hb3 HB2 HI2 HCS2
    by_cases hn : css.length ≤ 16
    · have d16 : decide ((16 : Int) < css.length) = false := decide_eq_false (by omega)
      obtain ⟨lv, l1, l2⟩ := HLOC.out hn
      obtain ⟨x1, x2⟩ := lv
      have L1 := Lib.hid l1
      have L2 := Lib.hid l2
      clear l1 l2 HLOC
      go_wp2_with fail
      refine (L1.out A c _ HI3.out HCS3.out).mono ?_
      rintro e w4 ⟨rfl, hb4⟩
      have HI4 := Lib.hid (HI3.out.below hb4)
      have HCS4 := Lib.hid (HCS3.out.below hb4)
      have HB4 := Lib.hid (HB3.out.trans (hb4.mono HB3.out.size))
      clear hb4 HB3 HI3 HCS3
      go_wp2_with fail
      refine (L2.out A c _ HI4.out HCS4.out).mono ?_
      rintro e w5 ⟨rfl, hb5⟩
      have HB5 := Lib.hid (HB4.out.trans (hb5.mono HB4.out.size))
      clear hb5 HB4 HI4 HCS4
      go_wp2_with fail
      refine (live_c _).mono ?_
      rintro e w6 ⟨rfl, hb6⟩
      have HB6 := Lib.hid (HB5.out.trans (hb6.mono HB5.out.size))
      clear hb6 HB5
      go_wp2_with fail
      go_ret
      exact ⟨by simp, HB6.out⟩
    · have d16 : decide ((16 : Int) < css.length) = true := decide_eq_true (by omega)
      clear HLOC
      go_wp2_with fail
      refine (live_c _).mono ?_
      rintro e w6 ⟨rfl, hb6⟩
      have HB6 := Lib.hid (HB3.out.trans (hb6.mono HB3.out.size))
      clear hb6 HB3
      go_wp2_with fail
      go_ret
      exact ⟨by simp, HB6.out⟩
end Go.Proofs.Ytdmfecaejdiihaa.F
