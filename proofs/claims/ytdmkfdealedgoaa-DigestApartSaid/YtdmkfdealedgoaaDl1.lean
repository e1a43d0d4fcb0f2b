/- The check sum's laws, walked. -/
import Derived.Test.YtdmkfdealedgoaaDv
import Derived.Test.YtdmkfdealedgoaaAp
set_option linter.unusedVariables false
set_option linter.unusedSimpArgs false
namespace Go.Proofs.Ytdmkfdealedgoaa.F
open Go.RowKit Go.Proofs.YtdmkfdealedgoaaW.PrintWords

theorem DigestCrcs_walk (s : Nat) (A : Option Addr) (c : Nat) (p : List Nat) (w : World) (hs : s < 4294967296) (hr : RN .u8 w A p) (hp : ∀ x ∈ p, x < 256) :
    Calls Try.prog 4 #[.int .u32 s, .slice A p.length c] w fun e w' => e = .returned (.bool true) ∧ Below w.heap.size w w' := by
  have h1 := fun W hr => CrcMore_c s A c p W hs hr hp
  have h2 := fun W hr => refCrcMore_c s A c p W hs hr hp
  have h3 := fun W hr => Crc_c A c p W hr hp
  have h4 : ∀ W, RN .u8 W A p → Calls Try.prog 13 #[.int .u32 0, .slice A p.length c] W fun e w' => e = .returned (.int .u32 (crcMore 0 p : Nat)) ∧ w' = W := fun W hr => refCrcMore_c 0 A c p W (by omega) hr hp
  obtain ⟨x, hx⟩ : ∃ x, crcMore s p = x := ⟨_, rfl⟩
  obtain ⟨y, hy⟩ : ∃ y, crcMore 0 p = y := ⟨_, rfl⟩
  rw [hx] at h1 h2
  rw [hy] at h3 h4
  have H1 := Lib.hid h1
  have H2 := Lib.hid h2
  have H3 := Lib.hid h3
  have H4 := Lib.hid h4
  clear h1 h2 h3 h4 hx hy
  go_enter Try.func4, Try.ntmps4
  go_wp2_with fail
  refine (live_c _).mono ?_
  rintro e w1 ⟨rfl, hb1⟩
  have HB1 := Lib.hid hb1
  have HR := Lib.hid (hr.below hb1)
  clear hb1 hr
  go_wp2_with fail
  refine (H1.out _ HR.out).mono ?_
  rintro e w2 ⟨rfl, rfl⟩
  go_wp2_with fail
  refine (H2.out _ HR.out).mono ?_
  rintro e w2 ⟨rfl, rfl⟩
  go_wp2_with fail
  refine (H3.out _ HR.out).mono ?_
  rintro e w2 ⟨rfl, rfl⟩
  go_wp2_with fail
  refine (H4.out _ HR.out).mono ?_
  rintro e w2 ⟨rfl, rfl⟩
  go_wp2_with fail
  go_ret
  exact ⟨by simp, HB1.out⟩

theorem DigestJoins_walk (A A2 : Option Addr) (c c2 : Nat) (p q : List Nat) (w : World) (hr : RN .u8 w A p) (hr2 : RN .u8 w A2 q) (hp : ∀ x ∈ p, x < 256) (hq : ∀ x ∈ q, x < 256) (hl : p.length ≤ 1048576) (hl2 : q.length ≤ 1048576) :
    Calls Try.prog 5 #[.slice A p.length c, .slice A2 q.length c2] w fun e w' => e = .returned (.bool true) ∧ Below w.heap.size w w' := by
  have hpq : ∀ x ∈ p ++ q, x < 256 := fun x hx => by
    rcases List.mem_append.1 hx with h | h
    · exact hp x h
    · exact hq x h
  have h1 := fun A c W hr => Crc_c A c (p ++ q) W hr hpq
  have h2 := fun W hr => Crc_c A c p W hr hp
  have h3 := fun W hr => CrcMore_c (crcMore 0 p) A2 c2 q W (crcMore_lt _ _) hr hq
  have hj := crcMore_app 0 p q (by omega) hp
  rw [hj] at h1
  obtain ⟨x, hx⟩ : ∃ x, crcMore 0 p = x := ⟨_, rfl⟩
  rw [hx] at h1 h2 h3
  obtain ⟨y, hy⟩ : ∃ y, crcMore x q = y := ⟨_, rfl⟩
  rw [hy] at h1 h3
  obtain ⟨r, hr0⟩ : ∃ r, p ++ q = r := ⟨_, rfl⟩
  rw [hr0] at h1
  have H1 := Lib.hid h1
  have H2 := Lib.hid h2
  have H3 := Lib.hid h3
  have HPQ := Lib.hid hr0
  clear h1 h2 h3 hx hy hj hr0 hpq
  have hb1 : ([] : List Nat).length + p.length ≤ 140737488355328 := by simp; omega
  have hl3 : (([] : List Nat).length + p.length) * 1 ≤ 140737488355328 := by simp; omega
  have hl4 : (p.length + q.length) * 1 ≤ 140737488355328 := by omega
  have HL3 := Lib.hid hl3
  have HL4 := Lib.hid hl4
  clear hb1 hl3 hl4
  go_enter Try.func5, Try.ntmps5
  go_wp2_with fail
  refine (live_c _).mono ?_
  rintro e w1 ⟨rfl, hb1⟩
  have hO : OwnN .u8 5 (w1.alloc (.cells #[] 5)) w1.heap.size (.slice (some ⟨w1.heap.size, 0, none⟩) 0 0) [] := by
    have := own_lit_of (enc := encN .u8) w1 w1.heap.size 5 [] (by simp) (by simp)
    simp only [List.map_nil, List.length_nil, encs] at this
    exact this
  have hbA : Below w1.heap.size w1 (w1.alloc (.cells #[] 5)) := (Below.refl _ _).alloc (Nat.le_refl _) _
  have HO := Lib.hid hO
  have HB1 := Lib.hid hb1
  have HBA := Lib.hid hbA
  have HR := Lib.hid ((hr.below hb1).below hbA)
  have HR10 := Lib.hid (hr.below hb1)
  have HR20 := Lib.hid (hr2.below hb1)
  have hs1 : w1.heap.size ≤ (w1.alloc (.cells #[] 5)).heap.size := by simp
  clear hO hb1 hbA hr hr2
  go_wp2_with (first
    | (at_builtin; refine append_NNw w1.heap.size rfl (.tmp 7) (.tmp 8) 22 5 .u8 1 rfl Try.underlying22 info_u8 (by decide) (.slice (some ⟨w1.heap.size, 0, none⟩) 0 0) [] p A c rfl rfl HO.out HR.out hs1 HL3.out ?_; intro v2 w2 ho2 hg2 hat2; rw [List.nil_append] at ho2; have hb2 := below_grown HO.out hs1 hg2; have HO2 := Lib.hid ho2; have hb12 := HBA.out.trans hb2; have HR3 := Lib.hid (HR20.out.below hb12); have HP3 := Lib.hid (HR10.out.below hb12); have hs2 : w1.heap.size ≤ w2.heap.size := hb12.size; clear hat2 ho2 hg2 hb2)
    | (at_builtin; refine append_NNw w1.heap.size rfl (.tmp 9) (.tmp 10) 22 5 .u8 1 rfl Try.underlying22 info_u8 (by decide) v2 p q A2 c2 rfl rfl HO2.out HR3.out hs2 HL4.out ?_; intro v3 w3 ho3 hg3 hat3))
  have hb23 := below_grown HO2.out hs2 hg3
  have hb13 := hb12.trans hb23
  rw [HPQ.out] at ho3
  obtain ⟨A3, c3, rfl, hc3, _, _, hr3⟩ := ho3.form
  have hp3 := HR10.out.below hb13
  have hq3 := HR20.out.below hb13
  have HR3' := Lib.hid hr3
  have HP3' := Lib.hid hp3
  have HQ3' := Lib.hid hq3
  have HB13 := Lib.hid hb13
  clear ho3 hg3 hat3 hb23 hb13 hb12 hr3 hp3 hq3
  refine (H1.out A3 c3 _ HR3'.out).mono ?_
  rintro e w4 ⟨rfl, rfl⟩
  go_wp2_with fail
  refine (H2.out _ HP3'.out).mono ?_
  rintro e w4 ⟨rfl, rfl⟩
  go_wp2_with fail
  refine (H3.out _ HQ3'.out).mono ?_
  rintro e w4 ⟨rfl, rfl⟩
  go_wp2_with fail
  go_ret
  exact ⟨by simp, HB1.out.trans (HB13.out.mono HB1.out.size)⟩
end Go.Proofs.Ytdmkfdealedgoaa.F
