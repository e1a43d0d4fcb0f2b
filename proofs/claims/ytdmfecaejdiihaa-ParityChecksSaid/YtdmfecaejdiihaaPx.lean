/- What must be; the parity of data is the document's. -/
import Derived.Test.YtdmfecaejdiihaaPv
set_option linter.unusedVariables false
set_option linter.unusedSimpArgs false
namespace Go.Proofs.Ytdmfecaejdiihaa.F
open Go.RowKit Go.Proofs.YtdmfecaejdiihaaW.PrintWords

/-- What an Encode answers, be it the program's or the document's. -/
def EncAns (out : List (List Nat)) (er : Int) (w : World) (e : Ending) (w' : World) : Prop :=
  ∃ A' c', e = .returned (.tuple #[.slice A' out.length c', .int .i64 er]) ∧ RR w' A' out ∧ Below w.heap.size w w'
def encOut (css : List (List Nat)) (m L : Nat) : List (List Nat) := if wrongV (css.map List.length) = 0 then (grpP css (List.range css.length) L (css.length + m)).drop css.length else []
theorem EncPost.ans {css : List (List Nat)} {m L : Nat} {w w' : World} {e : Ending} (h : EncPost css m L w e w') : EncAns (encOut css m L) (wrongV (css.map List.length)) w e w' := by
  obtain ⟨A', c', rfl, h1, h2, h3⟩ := h
  by_cases h0 : wrongV (css.map List.length) = 0
  · have hl : (encOut css m L).length = m := by unfold encOut; rw [if_pos h0]; simp [grpP]
    refine ⟨A', c', by rw [hl, if_pos h0], ?_, h3⟩
    unfold encOut
    rw [if_pos h0]
    exact (h1 h0).2
  · obtain ⟨rfl, rfl⟩ := h2 h0
    have hl : encOut css m L = [] := by unfold encOut; rw [if_neg h0]
    rw [hl, if_neg h0]
    exact ⟨none, 0, rfl, RR.nil _, h3⟩
theorem Encode_any (css : List (List Nat)) (m : Int) (hmx : (css.length : Int) ≤ 9223372036854775807) (hb : ∀ x ∈ css.flatten, x < 256) (hl : css.flatten.length ≤ 400) : ∃ out er,
    (∀ A c w, RR w A css → Calls Try.prog 9 #[.slice A css.length c, .int .i64 m] w (EncAns out er w)) ∧
    (∀ A c w, RR w A css → Calls Try.prog 10 #[.slice A css.length c, .int .i64 m] w (EncAns out er w)) := by
  by_cases hbad : css.length < 1 ∨ 32 < css.length ∨ m < 0 ∨ 16 < m
  · refine ⟨[], 2, fun A c w hr => (Encode_bad A c css m w hmx hbad).mono ?_, fun A c w hr => (rEncode_bad A c css m w hmx hbad).mono ?_⟩
    · rintro e w' ⟨rfl, rfl⟩
      exact ⟨none, 0, rfl, RR.nil _, Below.refl _ _⟩
    · rintro e w' ⟨rfl, rfl⟩
      exact ⟨none, 0, rfl, RR.nil _, Below.refl _ _⟩
  · obtain ⟨mn, rfl⟩ : ∃ mn : Nat, m = mn := ⟨m.toNat, by omega⟩
    have hlen : ∀ cs ∈ css, cs.length ≤ 4096 := fun cs hcs => by
      have := (List.sublist_flatten_of_mem hcs).length_le
      omega
    have hb2 : ∀ cs ∈ css, ∀ y ∈ cs, y < 256 := fun cs hcs y hy => hb y (List.mem_flatten.2 ⟨cs, hcs, hy⟩)
    obtain ⟨L, hL⟩ : ∃ L, wrongV (css.map List.length) = 0 → ∀ cs ∈ css, cs.length = L := by
      by_cases h0 : wrongV (css.map List.length) = 0
      · obtain ⟨L, hL⟩ := wrongV_same (n := 0) (L := 0) h0 (by omega)
        exact ⟨L, fun _ => hL⟩
      · exact ⟨0, fun h => absurd h h0⟩
    exact ⟨encOut css mn L, _, fun A c w hr => (Encode_c A c css mn L w hr (by omega) (by omega) (by omega) hlen hb2 hL).mono fun e w' h => h.ans,
      fun A c w hr => (rEncode_c A c css mn L w hr (by omega) (by omega) (by omega) hlen hb2 hL).mono fun e w' h => h.ans⟩
theorem enc_live : encOut [[5], [7]] 1 1 = [[1]] ∧ wrongV ([[5], [7]].map List.length) = 0 := by
  constructor
  · kernel_rfl
  · kernel_rfl
theorem lit_live (w : World) : RR (((w.alloc (.cells #[.int .u8 5] 5)).alloc (.cells #[.int .u8 7] 5)).alloc (.cells #[.slice (some ⟨w.heap.size, 0, none⟩) 1 1, .slice (some ⟨w.heap.size + 1, 0, none⟩) 1 1] 29))
    (some ⟨w.heap.size + 1 + 1, 0, none⟩) [[5], [7]] := by
  have b1 : Below w.heap.size w (w.alloc (.cells #[.int .u8 5] 5)) := (Below.refl _ _).alloc (Nat.le_refl _) _
  have r5 : RN .u8 (w.alloc (.cells #[.int .u8 5] 5)) (some ⟨w.heap.size, 0, none⟩) [5] := lit_reads .u8 5 w [5] (by simp)
  obtain ⟨w1, hw1⟩ : ∃ w1, w.alloc (.cells #[.int .u8 5] 5) = w1 := ⟨_, rfl⟩
  have s1 : w1.heap.size = w.heap.size + 1 := by rw [← hw1]; simp
  rw [hw1] at r5 ⊢
  rw [← s1]
  have b2 : Below w1.heap.size w1 (w1.alloc (.cells #[.int .u8 7] 5)) := (Below.refl _ _).alloc (Nat.le_refl _) _
  have r7 : RN .u8 (w1.alloc (.cells #[.int .u8 7] 5)) (some ⟨w1.heap.size, 0, none⟩) [7] := lit_reads .u8 5 w1 [7] (by simp)
  obtain ⟨w2, hw2⟩ : ∃ w2, w1.alloc (.cells #[.int .u8 7] 5) = w2 := ⟨_, rfl⟩
  have s2 : w2.heap.size = w1.heap.size + 1 := by rw [← hw2]; simp
  rw [hw2] at r7 b2 ⊢
  rw [← s2]
  have r5 := r5.below b2
  have b3 : Below w2.heap.size w2 (w2.alloc (.cells #[.slice (some ⟨w.heap.size, 0, none⟩) 1 1, .slice (some ⟨w1.heap.size, 0, none⟩) 1 1] 29)) := (Below.refl _ _).alloc (Nat.le_refl _) _
  have hh : (w2.alloc (.cells (arrV [(some ⟨w.heap.size, 0, none⟩, 1, 1), (some ⟨w1.heap.size, 0, none⟩, 1, 1)] 2) 29)).heap[w2.heap.size]? = some (.cells (arrV [(some ⟨w.heap.size, 0, none⟩, 1, 1), (some ⟨w1.heap.size, 0, none⟩, 1, 1)] 2) 29 (0, 0)) := heap_alloc_new _ _
  have r5 := r5.below b3
  have r7 := r7.below b3
  refine rr_of_fit (okc := fun _ => True) (sv_of_arr hh (by simp)) (fun i h1 h2 => ?_) rfl
  match i, h1, h2 with
  | 0, _, _ => exact ⟨rfl, rfl, by simp, r5, fun _ _ => trivial⟩
  | 1, _, _ => exact ⟨rfl, rfl, by simp, r7, fun _ _ => trivial⟩
set_option maxRecDepth 20000 in
set_option maxHeartbeats 4000000 in
theorem live_c (w : World) : Calls Try.prog 8 #[] w fun e w' => e = .returned (.bool true) ∧ Below w.heap.size w w' := by
  have hrr := lit_live w
  have hbl : Below w.heap.size w (((w.alloc (.cells #[.int .u8 5] 5)).alloc (.cells #[.int .u8 7] 5)).alloc (.cells #[.slice (some ⟨w.heap.size, 0, none⟩) 1 1, .slice (some ⟨w.heap.size + 1, 0, none⟩) 1 1] 29)) :=
    (((Below.refl _ _).alloc (Nat.le_refl _) _).alloc (by simp) _).alloc (by simp; omega) _
  obtain ⟨w1, hw1⟩ : ∃ w1, ((w.alloc (.cells #[.int .u8 5] 5)).alloc (.cells #[.int .u8 7] 5)).alloc (.cells #[.slice (some ⟨w.heap.size, 0, none⟩) 1 1, .slice (some ⟨w.heap.size + 1, 0, none⟩) 1 1] 29) = w1 := ⟨_, rfl⟩
  rw [hw1] at hrr hbl
  have henc := fun c => (Encode_c (some ⟨w.heap.size + 1 + 1, 0, none⟩) c [[5], [7]] 1 1 w1 hrr (by simp) (by simp) (by omega) (by simp) (by simp) (fun _ => by simp)).mono fun e w' h => h.ans
  rw [enc_live.1, enc_live.2] at henc
  have HENC := Lib.hid henc
  have HBL := Lib.hid hbl
  have HW1 := Lib.hid hw1
  clear henc hrr hbl hw1
  go_enter Try.func8, Try.ntmps8
  go_wp2_with fail
  rw [HW1.out]
  refine (HENC.out 2).mono ?_
  rintro e w2 ⟨A2, c2, rfl, rr2, hb2⟩
  obtain ⟨ad, A3, c3, e3, q3, l3, r3⟩ := rr2.at 0 (by simp)
  subst e3
  obtain ⟨bd, e4, q4⟩ := r3.at 0 (by simp)
  subst e4
  rw [show ad.add 0 = ad by unfold Addr.add; simp] at q3
  rw [show bd.add 0 = bd by unfold Addr.add; simp] at q4
  simp only [List.getElem_cons_zero, List.length_singleton, List.length_cons, List.length_nil, Nat.zero_add] at q3 q4 ⊢
  have HB2 := Lib.hid (HBL.out.trans (hb2.mono HBL.out.size))
  clear rr2 hb2 l3 r3 HENC HBL HW1
  go_wp2_with fail
  go_ret
  exact ⟨by simp, HB2.out⟩
end Go.Proofs.Ytdmfecaejdiihaa.F
