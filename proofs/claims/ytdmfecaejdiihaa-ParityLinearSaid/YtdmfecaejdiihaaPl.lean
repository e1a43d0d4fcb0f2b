/- ParityLinear, walked. -/
import Derived.Test.YtdmfecaejdiihaaPz
set_option linter.unusedVariables false
set_option linter.unusedSimpArgs false
namespace Go.Proofs.Ytdmfecaejdiihaa.F
open Go.RowKit Go.Proofs.YtdmfecaejdiihaaW.PrintWords

/-- Three rows of bytes, each for itself. -/
structure N3 (W : World) (N : Nat) (vp vq vs : Value) (P Q S : List Nat) : Prop where
  p : OwnN .u8 5 W N vp P
  q : OwnN .u8 5 W N vq Q
  s : OwnN .u8 5 W N vs S
  pq : NeRow vp vq
  qs : NeRow vq vs
  sp : NeRow vs vp
theorem N3.rot {W : World} {N : Nat} {vp vq vs : Value} {P Q S : List Nat} (h : N3 W N vp vq vs P Q S) : N3 W N vq vs vp Q S P := ⟨h.q, h.s, h.p, h.qs, h.sp, h.pq⟩
theorem N3.nil (W : World) (N : Nat) : N3 W N (.slice none 0 0) (.slice none 0 0) (.slice none 0 0) [] [] [] := ⟨OwnN.nil _ _ _ _, OwnN.nil _ _ _ _, OwnN.nil _ _ _ _, ne_nil _, ne_nil _, ne_nil _⟩
theorem N3.app {W w1 : World} {N : Nat} {vp vq vs v1 : Value} {P Q S P1 : List Nat} (h : N3 W N vp vq vs P Q S) (ho : OwnN .u8 5 w1 N v1 P1) (hg : W.grownBy w1 vp.ownBlock) (hat : v1.ownBlock = vp.ownBlock ∨ ∃ b, v1.ownBlock = some b ∧ W.heap.size ≤ b) :
    N3 w1 N vq vs v1 Q S P1 := by
  have hps := ne_symm h.sp
  exact ⟨own_other h.q hg (ne_other h.pq), own_other h.s hg (ne_other hps), ho, h.qs, ne_symm (ne_append hps hat h.s), ne_append h.pq hat h.q⟩
def Fr (W : World) (A : Option Addr) (v1 v2 v3 : Value) : Prop := ∀ a, A = some a → a.block < W.heap.size ∧ v1.ownBlock ≠ some a.block ∧ v2.ownBlock ≠ some a.block ∧ v3.ownBlock ≠ some a.block
theorem Fr.app {W w1 : World} {A : Option Addr} {v v1 v2 v3 : Value} (h : Fr W A v1 v2 v3) (hg : W.grownBy w1 v1.ownBlock) (hat : v.ownBlock = v1.ownBlock ∨ ∃ b, v.ownBlock = some b ∧ W.heap.size ≤ b) : Fr w1 A v2 v3 v := fun a ha => by
  obtain ⟨h1, h2, h3, h4⟩ := h a ha
  refine ⟨by have := hg.size; omega, h3, h4, fun e => ?_⟩
  rcases hat with hat | ⟨b, hb, hle⟩
  · exact h2 (hat ▸ e)
  · rw [hb] at e; injection e with e; omega
theorem Fr.rn {W w1 : World} {A : Option Addr} {v1 v2 v3 : Value} {xs : List Nat} (h : Fr W A v1 v2 v3) (hr : RN .u8 W A xs) (hg : W.grownBy w1 v1.ownBlock) : RN .u8 w1 A xs := hr.move (fun a ha => hg.block _ (h a ha).1 (fun e => (h a ha).2.1 e.symm))
theorem SRow.grown {W w1 : World} {ok : Nat → Prop} {base e : Nat} {v : Value} {css : List (List Nat)} (h : SRow W ok base e v css) (hb : base ≤ W.heap.size) (hg : W.grownBy w1 v.ownBlock) : Below base W w1 :=
  ⟨hg.os, hg.tape, hg.output, hg.size, fun k hk => hg.block k (by omega) (fun e => by have := (h.typed k e.symm).1; omega)⟩
theorem OwnN.fr {k : IntKind} {e : TypeId} {W : World} {base : Nat} {A : Option Addr} {n c : Nat} {xs : List Nat} (h : OwnN k e W base (.slice A n c) xs) {v1 v2 v3 : Value} (h1 : ∀ b, v1.ownBlock = some b → b < base) (h2 : ∀ b, v2.ownBlock = some b → b < base) (h3 : ∀ b, v3.ownBlock = some b → b < base) : Fr W A v1 v2 v3 := fun a ha =>
  ⟨(h.fresh (Nat.le_refl _) h1 a ha).1, (h.fresh (Nat.le_refl _) h1 a ha).2, (h.fresh (Nat.le_refl _) h2 a ha).2, (h.fresh (Nat.le_refl _) h3 a ha).2⟩
def pf (l : List Nat) (k : Nat) : List Nat := (List.range k).map fun j => l.getD j 0
def xf (l m : List Nat) (k : Nat) : List Nat := (List.range k).map fun j => l.getD j 0 ^^^ m.getD j 0
theorem pf_succ (l : List Nat) (k : Nat) : pf l (k + 1) = pf l k ++ [l.getD k 0] := by unfold pf; rw [List.range_succ, List.map_append]; rfl
theorem xf_succ (l m : List Nat) (k : Nat) : xf l m (k + 1) = xf l m k ++ [l.getD k 0 ^^^ m.getD k 0] := by unfold xf; rw [List.range_succ, List.map_append]; rfl
theorem pf_len (l : List Nat) (k : Nat) : (pf l k).length = k := by simp [pf]
theorem xf_len (l m : List Nat) (k : Nat) : (xf l m k).length = k := by simp [xf]
theorem rowsP_succ (c : List (List Nat)) (i : Nat) (h : i < c.length) : rowsP c (i + 1) = rowsP c i ++ [pf c[i] 20] := by
  unfold rowsP
  rw [List.range_succ, List.map_append, List.map_cons, List.map_nil, show c.getD i [] = c[i] by simp [List.getD_eq_getElem?_getD, h]]
  rfl
theorem rowsX_succ (c d : List (List Nat)) (i : Nat) (h : i < c.length) (h2 : i < d.length) : rowsX c d (i + 1) = rowsX c d i ++ [xf c[i] d[i] 20] := by
  unfold rowsX
  rw [List.range_succ, List.map_append, List.map_cons, List.map_nil, show c.getD i [] = c[i] by simp [List.getD_eq_getElem?_getD, h], show d.getD i [] = d[i] by simp [List.getD_eq_getElem?_getD, h2]]
  rfl
theorem rowsP_len (c : List (List Nat)) (n : Nat) : (rowsP c n).length = n := by simp [rowsP]
theorem rowsX_len (c d : List (List Nat)) (n : Nat) : (rowsX c d n).length = n := by simp [rowsX]

set_option maxRecDepth 20000 in
set_option maxHeartbeats 20000000 in
theorem ParityLinear_walk (A B : Option Addr) (ca cb : Nat) (c d : List (List Nat)) (m : Nat) (w : World) (hc : RR w A c) (hd : RR w B d) (bc : ∀ x ∈ c.flatten, x < 256) (bd : ∀ x ∈ d.flatten, x < 256) (hm : m < 256) :
    Calls Try.prog 4 #[.slice A c.length ca, .slice B d.length cb, .int .u8 m] w fun e w' => e = .returned (.bool true) ∧ Below w.heap.size w w' := by
  have hmx := hc.max
  have hmy := hd.max
  obtain ⟨p, hp, hp1⟩ : ∃ p : Nat, (if d.length < c.length then (d.length : Int) else (c.length : Int)) = p ∧ p = min c.length d.length := ⟨min c.length d.length, by split <;> omega, rfl⟩
  have hp' : (if (d.length : Int) < (c.length : Int) then (d.length : Int) else (c.length : Int)) = p := by split <;> omega
  obtain ⟨n, hn, hn0⟩ : ∃ n : Nat, (if 8 < p then (8 : Int) else (p : Int)) = n ∧ n = min p 8 := ⟨min p 8, by split <;> omega, rfl⟩
  have hn' : (if (8 : Int) < (p : Int) then (8 : Int) else (p : Int)) = n := by split <;> omega
  have hn1 : n ≤ c.length := by omega
  have hn2 : n ≤ d.length := by omega
  have hn8 : n ≤ 8 := by omega
  obtain ⟨op, oq, os, er, hlin⟩ := lin_any c d n (m % 7) bc bd hn8 (by omega)
  have HC := Lib.hid hc
  have HD := Lib.hid hd
  have BC := Lib.hid bc
  have BD := Lib.hid bd
  have HLIN := Lib.hid hlin
  clear hc hd bc bd hlin hp1 hn0
  go_enter Try.func4, Try.ntmps4
  go_wp2_with fail
  clear hp hp' hn hn'
  go_loopw [8, 9, 10, 11] (fun vx vy vz vi W => ∃ (i : Nat) (ok : Nat → Prop), i ≤ n ∧ vi = .int .i64 i ∧ T3 W ok w.heap.size 29 vx vy vz (rowsP c i) (rowsP d i) (rowsX c d i) ∧ Below w.heap.size w W) (fun _ _ _ vi _ => n - (intOf vi).toNat)
  case atStart => exact ⟨0, _, by omega, rfl, T3.nil _ _ _, Below.refl _ _⟩
  case round =>
    obtain ⟨i, ok, hi, rfl, ht, hB⟩ := hrel
    have HT := Lib.hid ht
    have HB := Lib.hid hB
    have hsz := hB.size
    clear ht hB
    by_cases hlt : i < n
    · have hd0 : decide ((i : Int) < n) = true := decide_eq_true (by omega)
      have hic : i < c.length := by omega
      have hid : i < d.length := by omega
      have hrs : rowsP c (i + 1) = rowsP c i ++ [pf c[i] 20] ∧ rowsP d (i + 1) = rowsP d i ++ [pf d[i] 20] ∧ rowsX c d (i + 1) = rowsX c d i ++ [xf c[i] d[i] 20] := ⟨rowsP_succ c i hic, rowsP_succ d i hid, rowsX_succ c d i hic hid⟩
      have hla : ∀ y ∈ c[i], y < 256 := fun y hy => BC.out y (List.mem_flatten.2 ⟨_, List.getElem_mem _, hy⟩)
      have hlb : ∀ y ∈ d[i], y < 256 := fun y hy => BD.out y (List.mem_flatten.2 ⟨_, List.getElem_mem _, hy⟩)
      obtain ⟨ad, Aa, cca, e, qa, _, ra⟩ := (HC.out.below HB.out).at i hic
      subst e
      obtain ⟨bd, Ab, ccb, e, qb, _, rb⟩ := (HD.out.below HB.out).at i hid
      subst e
      obtain ⟨la, hla2⟩ : ∃ la, c[i] = la := ⟨_, rfl⟩
      obtain ⟨lb, hlb2⟩ : ∃ lb, d[i] = lb := ⟨_, rfl⟩
      rw [hla2, hlb2] at hrs
      rw [hla2] at hla qa ra
      rw [hlb2] at hlb qb rb
      have hma := ra.max
      have hmb := rb.max
      have HRS := Lib.hid hrs
      have HLA := Lib.hid hla
      have HLB := Lib.hid hlb
      have HRA := Lib.hid ra
      have HRB := Lib.hid rb
      have HQA := Lib.hid qa
      have HQB := Lib.hid qb
      have i0 : (0 : Int) ≤ (i : Int) := by omega
      have i1 : (i : Int) < (c.length : Int) := by omega
      have i2 : (i : Int) < (d.length : Int) := by omega
      clear hrs hla hlb ra rb hla2 hlb2 qa qb
      obtain ⟨wo, rfl⟩ : ∃ wo : World, wo = wr := ⟨_, rfl⟩
      go_wp2_with fail
      go_loopw [12, 13, 14, 15] (fun vp vq vs vk W => ∃ k : Nat, k ≤ 20 ∧ vk = .int .i64 k ∧ N3 W wo.heap.size vp vq vs (pf la k) (pf lb k) (xf la lb k) ∧ Below wo.heap.size wo W) (fun _ _ _ vk _ => 20 - (intOf vk).toNat)
      case atStart => exact ⟨0, by omega, rfl, N3.nil _ _, Below.refl _ _⟩
      case round =>
        obtain ⟨k, hk, rfl, hN, hB2⟩ := hrel
        have HN := Lib.hid hN
        have HB2 := Lib.hid hB2
        have hsz2 := hB2.size
        clear hN hB2
        by_cases hk20 : k < 20
        · have hdk : decide ((k : Int) < 20) = true := decide_eq_true (by omega)
          have hqa : wr.cell? (ad.add i) = some (.slice Aa la.length cca) := (HB2.out.cell (World.block_lt_of_cell? _ _ HQA.out)).trans HQA.out
          have hqb : wr.cell? (bd.add i) = some (.slice Ab lb.length ccb) := (HB2.out.cell (World.block_lt_of_cell? _ _ HQB.out)).trans HQB.out
          have hl1 : ((pf la k).length + 1) * 1 ≤ 140737488355328 := by rw [pf_len]; omega
          have hl2 : ((pf lb k).length + 1) * 1 ≤ 140737488355328 := by rw [pf_len]; omega
          have hl3 : ((xf la lb k).length + 1) * 1 ≤ 140737488355328 := by rw [xf_len]; omega
          have hs1 := pf_succ la k
          have hs2 := pf_succ lb k
          have hs3 := xf_succ la lb k
          have k0 : (0 : Int) ≤ (k : Int) := by omega
          have HL1 := Lib.hid hl1
          have HL2 := Lib.hid hl2
          have HL3 := Lib.hid hl3
          have HS1 := Lib.hid hs1
          have HS2 := Lib.hid hs2
          have HS3 := Lib.hid hs3
          clear hl1 hl2 hl3 hs1 hs2 hs3
          by_cases ha : k < la.length
          · by_cases hb : k < lb.length
            · obtain ⟨ed, e, hcx⟩ := (HRA.out.below HB2.out).at k ha
              subst e
              have hgx : la.getD k 0 = la[k] := by simp [List.getD_eq_getElem?_getD, ha]
              have hx : la[k] < 256 := HLA.out _ (List.getElem_mem _)
              obtain ⟨x, hxe⟩ : ∃ x, la[k] = x := ⟨_, rfl⟩
              rw [hxe] at hcx hgx hx
              have da : decide ((k : Int) < la.length) = true := decide_eq_true (by omega)
              have da1 : (k : Int) < (la.length : Int) := by omega
              obtain ⟨fd, e, hcy⟩ := (HRB.out.below HB2.out).at k hb
              subst e
              have hgy : lb.getD k 0 = lb[k] := by simp [List.getD_eq_getElem?_getD, hb]
              have hy : lb[k] < 256 := HLB.out _ (List.getElem_mem _)
              obtain ⟨y, hye⟩ : ∃ y, lb[k] = y := ⟨_, rfl⟩
              rw [hye] at hcy hgy hy
              have db : decide ((k : Int) < lb.length) = true := decide_eq_true (by omega)
              have db1 : (k : Int) < (lb.length : Int) := by omega
              have HGX := Lib.hid hgx
              have HGY := Lib.hid hgy
              have hxy := u8_xor_nat x y hx hy
              clear hgx hgy hxe hye
              go_wp2_with (first
                | (at_builtin; refine append_N2 wo.heap.size rfl (.tmp 69) (.tmp 71) 29 5 .u8 1 rfl Try.underlying29 info_u8 (by decide) u12 (pf la k) x rfl wr.heap.size rfl rfl HN.out.p hsz2 HL1.out ?_; intro v1 w1 ho1 hg1 hat1; have hbb1 := below_grown HN.out.p hsz2 hg1; have HN1 := Lib.hid (HN.out.app ho1 hg1 hat1); have HB3 := Lib.hid (HB2.out.trans (hbb1.mono (Nat.le_refl _))); have hz1 : wo.heap.size ≤ w1.heap.size := (by have := hbb1.size; omega); clear ho1 hg1 hat1 hbb1)
                | (at_builtin; refine append_N2 wo.heap.size rfl (.tmp 73) (.tmp 75) 29 5 .u8 1 rfl Try.underlying29 info_u8 (by decide) u13 (pf lb k) y rfl w1.heap.size rfl rfl HN1.out.p hz1 HL2.out ?_; intro v2 w2 ho2 hg2 hat2; have hbb2 := below_grown HN1.out.p hz1 hg2; have HN2 := Lib.hid (HN1.out.app ho2 hg2 hat2); have HB4 := Lib.hid (HB3.out.trans (hbb2.mono (Nat.le_refl _))); have hz2 : wo.heap.size ≤ w2.heap.size := (by have := hbb2.size; omega); clear ho2 hg2 hat2 hbb2)
                | (at_builtin; refine append_N2 wo.heap.size rfl (.tmp 77) (.tmp 81) 29 5 .u8 1 rfl Try.underlying29 info_u8 (by decide) u14 (xf la lb k) (x ^^^ y) rfl w2.heap.size rfl rfl HN2.out.p hz2 HL3.out ?_; intro v3 w3 ho3 hg3 hat3; have hbb3 := below_grown HN2.out.p hz2 hg3; have HN3 := Lib.hid (HN2.out.app ho3 hg3 hat3); have HB5 := Lib.hid (HB4.out.trans (hbb3.mono (Nat.le_refl _))); have hz3 : wo.heap.size ≤ w3.heap.size := (by have := hbb3.size; omega); clear ho3 hg3 hat3 hbb3))
              exact ⟨⟨k + 1, by omega, by go_num, by rw [HS1.out, HS2.out, HS3.out, HGX.out, HGY.out]; exact HN3.out, HB5.out⟩, by simp [intOf]; omega⟩
            · obtain ⟨ed, e, hcx⟩ := (HRA.out.below HB2.out).at k ha
              subst e
              have hgx : la.getD k 0 = la[k] := by simp [List.getD_eq_getElem?_getD, ha]
              have hx : la[k] < 256 := HLA.out _ (List.getElem_mem _)
              obtain ⟨x, hxe⟩ : ∃ x, la[k] = x := ⟨_, rfl⟩
              rw [hxe] at hcx hgx hx
              have da : decide ((k : Int) < la.length) = true := decide_eq_true (by omega)
              have da1 : (k : Int) < (la.length : Int) := by omega
              obtain ⟨y, hye⟩ : ∃ y : Nat, y = 0 := ⟨_, rfl⟩
              have hgy : lb.getD k 0 = y := by rw [List.getD_eq_getElem?_getD, List.getElem?_eq_none (by omega), hye]; rfl
              have hy : y < 256 := by omega
              have db : decide ((k : Int) < lb.length) = false := decide_eq_false (by omega)
              have HGX := Lib.hid hgx
              have HGY := Lib.hid hgy
              subst hye
              have hxy : Go.bits .xor .u8 (x : Int) 0 = (x : Int) := by have h := u8_xor_nat x 0 hx (by omega); rw [Nat.xor_zero] at h; exact h
              clear hgx hgy hxe
              go_wp2_with (first
                | (at_builtin; refine append_N2 wo.heap.size rfl (.tmp 69) (.tmp 71) 29 5 .u8 1 rfl Try.underlying29 info_u8 (by decide) u12 (pf la k) x rfl wr.heap.size rfl rfl HN.out.p hsz2 HL1.out ?_; intro v1 w1 ho1 hg1 hat1; have hbb1 := below_grown HN.out.p hsz2 hg1; have HN1 := Lib.hid (HN.out.app ho1 hg1 hat1); have HB3 := Lib.hid (HB2.out.trans (hbb1.mono (Nat.le_refl _))); have hz1 : wo.heap.size ≤ w1.heap.size := (by have := hbb1.size; omega); clear ho1 hg1 hat1 hbb1)
                | (at_builtin; refine append_N2 wo.heap.size rfl (.tmp 73) (.tmp 75) 29 5 .u8 1 rfl Try.underlying29 info_u8 (by decide) u13 (pf lb k) 0 rfl w1.heap.size rfl rfl HN1.out.p hz1 HL2.out ?_; intro v2 w2 ho2 hg2 hat2; have hbb2 := below_grown HN1.out.p hz1 hg2; have HN2 := Lib.hid (HN1.out.app ho2 hg2 hat2); have HB4 := Lib.hid (HB3.out.trans (hbb2.mono (Nat.le_refl _))); have hz2 : wo.heap.size ≤ w2.heap.size := (by have := hbb2.size; omega); clear ho2 hg2 hat2 hbb2)
                | (at_builtin; refine append_N2 wo.heap.size rfl (.tmp 77) (.tmp 81) 29 5 .u8 1 rfl Try.underlying29 info_u8 (by decide) u14 (xf la lb k) x rfl w2.heap.size rfl rfl HN2.out.p hz2 HL3.out ?_; intro v3 w3 ho3 hg3 hat3; have hbb3 := below_grown HN2.out.p hz2 hg3; have HN3 := Lib.hid (HN2.out.app ho3 hg3 hat3); have HB5 := Lib.hid (HB4.out.trans (hbb3.mono (Nat.le_refl _))); have hz3 : wo.heap.size ≤ w3.heap.size := (by have := hbb3.size; omega); clear ho3 hg3 hat3 hbb3))
              exact ⟨⟨k + 1, by omega, by go_num, by rw [HS1.out, HS2.out, HS3.out, HGX.out, HGY.out, Nat.xor_zero]; exact HN3.out, HB5.out⟩, by simp [intOf]; omega⟩
          · by_cases hb : k < lb.length
            · obtain ⟨x, hxe⟩ : ∃ x : Nat, x = 0 := ⟨_, rfl⟩
              have hgx : la.getD k 0 = x := by rw [List.getD_eq_getElem?_getD, List.getElem?_eq_none (by omega), hxe]; rfl
              have hx : x < 256 := by omega
              have da : decide ((k : Int) < la.length) = false := decide_eq_false (by omega)
              obtain ⟨fd, e, hcy⟩ := (HRB.out.below HB2.out).at k hb
              subst e
              have hgy : lb.getD k 0 = lb[k] := by simp [List.getD_eq_getElem?_getD, hb]
              have hy : lb[k] < 256 := HLB.out _ (List.getElem_mem _)
              obtain ⟨y, hye⟩ : ∃ y, lb[k] = y := ⟨_, rfl⟩
              rw [hye] at hcy hgy hy
              have db : decide ((k : Int) < lb.length) = true := decide_eq_true (by omega)
              have db1 : (k : Int) < (lb.length : Int) := by omega
              have HGX := Lib.hid hgx
              have HGY := Lib.hid hgy
              subst hxe
              have hxy : Go.bits .xor .u8 0 (y : Int) = (y : Int) := by have h := u8_xor_nat 0 y (by omega) hy; rw [Nat.zero_xor] at h; exact h
              clear hgx hgy hye
              go_wp2_with (first
                | (at_builtin; refine append_N2 wo.heap.size rfl (.tmp 69) (.tmp 71) 29 5 .u8 1 rfl Try.underlying29 info_u8 (by decide) u12 (pf la k) 0 rfl wr.heap.size rfl rfl HN.out.p hsz2 HL1.out ?_; intro v1 w1 ho1 hg1 hat1; have hbb1 := below_grown HN.out.p hsz2 hg1; have HN1 := Lib.hid (HN.out.app ho1 hg1 hat1); have HB3 := Lib.hid (HB2.out.trans (hbb1.mono (Nat.le_refl _))); have hz1 : wo.heap.size ≤ w1.heap.size := (by have := hbb1.size; omega); clear ho1 hg1 hat1 hbb1)
                | (at_builtin; refine append_N2 wo.heap.size rfl (.tmp 73) (.tmp 75) 29 5 .u8 1 rfl Try.underlying29 info_u8 (by decide) u13 (pf lb k) y rfl w1.heap.size rfl rfl HN1.out.p hz1 HL2.out ?_; intro v2 w2 ho2 hg2 hat2; have hbb2 := below_grown HN1.out.p hz1 hg2; have HN2 := Lib.hid (HN1.out.app ho2 hg2 hat2); have HB4 := Lib.hid (HB3.out.trans (hbb2.mono (Nat.le_refl _))); have hz2 : wo.heap.size ≤ w2.heap.size := (by have := hbb2.size; omega); clear ho2 hg2 hat2 hbb2)
                | (at_builtin; refine append_N2 wo.heap.size rfl (.tmp 77) (.tmp 81) 29 5 .u8 1 rfl Try.underlying29 info_u8 (by decide) u14 (xf la lb k) y rfl w2.heap.size rfl rfl HN2.out.p hz2 HL3.out ?_; intro v3 w3 ho3 hg3 hat3; have hbb3 := below_grown HN2.out.p hz2 hg3; have HN3 := Lib.hid (HN2.out.app ho3 hg3 hat3); have HB5 := Lib.hid (HB4.out.trans (hbb3.mono (Nat.le_refl _))); have hz3 : wo.heap.size ≤ w3.heap.size := (by have := hbb3.size; omega); clear ho3 hg3 hat3 hbb3))
              exact ⟨⟨k + 1, by omega, by go_num, by rw [HS1.out, HS2.out, HS3.out, HGX.out, HGY.out, Nat.zero_xor]; exact HN3.out, HB5.out⟩, by simp [intOf]; omega⟩
            · obtain ⟨x, hxe⟩ : ∃ x : Nat, x = 0 := ⟨_, rfl⟩
              have hgx : la.getD k 0 = x := by rw [List.getD_eq_getElem?_getD, List.getElem?_eq_none (by omega), hxe]; rfl
              have hx : x < 256 := by omega
              have da : decide ((k : Int) < la.length) = false := decide_eq_false (by omega)
              obtain ⟨y, hye⟩ : ∃ y : Nat, y = 0 := ⟨_, rfl⟩
              have hgy : lb.getD k 0 = y := by rw [List.getD_eq_getElem?_getD, List.getElem?_eq_none (by omega), hye]; rfl
              have hy : y < 256 := by omega
              have db : decide ((k : Int) < lb.length) = false := decide_eq_false (by omega)
              have HGX := Lib.hid hgx
              have HGY := Lib.hid hgy
              subst hxe
              subst hye
              have hxy : Go.bits .xor .u8 0 0 = 0 := by have h := u8_xor_nat 0 0 (by omega) (by omega); exact h
              clear hgx hgy
              go_wp2_with (first
                | (at_builtin; refine append_N2 wo.heap.size rfl (.tmp 69) (.tmp 71) 29 5 .u8 1 rfl Try.underlying29 info_u8 (by decide) u12 (pf la k) 0 rfl wr.heap.size rfl rfl HN.out.p hsz2 HL1.out ?_; intro v1 w1 ho1 hg1 hat1; have hbb1 := below_grown HN.out.p hsz2 hg1; have HN1 := Lib.hid (HN.out.app ho1 hg1 hat1); have HB3 := Lib.hid (HB2.out.trans (hbb1.mono (Nat.le_refl _))); have hz1 : wo.heap.size ≤ w1.heap.size := (by have := hbb1.size; omega); clear ho1 hg1 hat1 hbb1)
                | (at_builtin; refine append_N2 wo.heap.size rfl (.tmp 73) (.tmp 75) 29 5 .u8 1 rfl Try.underlying29 info_u8 (by decide) u13 (pf lb k) 0 rfl w1.heap.size rfl rfl HN1.out.p hz1 HL2.out ?_; intro v2 w2 ho2 hg2 hat2; have hbb2 := below_grown HN1.out.p hz1 hg2; have HN2 := Lib.hid (HN1.out.app ho2 hg2 hat2); have HB4 := Lib.hid (HB3.out.trans (hbb2.mono (Nat.le_refl _))); have hz2 : wo.heap.size ≤ w2.heap.size := (by have := hbb2.size; omega); clear ho2 hg2 hat2 hbb2)
                | (at_builtin; refine append_N2 wo.heap.size rfl (.tmp 77) (.tmp 81) 29 5 .u8 1 rfl Try.underlying29 info_u8 (by decide) u14 (xf la lb k) 0 rfl w2.heap.size rfl rfl HN2.out.p hz2 HL3.out ?_; intro v3 w3 ho3 hg3 hat3; have hbb3 := below_grown HN2.out.p hz2 hg3; have HN3 := Lib.hid (HN2.out.app ho3 hg3 hat3); have HB5 := Lib.hid (HB4.out.trans (hbb3.mono (Nat.le_refl _))); have hz3 : wo.heap.size ≤ w3.heap.size := (by have := hbb3.size; omega); clear ho3 hg3 hat3 hbb3))
              exact ⟨⟨k + 1, by omega, by go_num, by rw [HS1.out, HS2.out, HS3.out, HGX.out, HGY.out, Nat.zero_xor]; exact HN3.out, HB5.out⟩, by simp [intOf]; omega⟩
        · have hdk : decide ((k : Int) < 20) = false := decide_eq_false (by omega)
          obtain rfl : k = 20 := by omega
          have hN := HN.out
          obtain ⟨Ap, cp, rfl, hcp, rp⟩ := hN.p.reads
          obtain ⟨Aq, cq, rfl, hcq, rq⟩ := hN.q.reads
          obtain ⟨As, cs, rfl, hcs, rs⟩ := hN.s.reads
          have HT2 := Lib.hid (HT.out.below HB2.out)
          have ox := fun b hb => (HT.out.x.typed b hb).2.1
          have oy := fun b hb => (HT.out.y.typed b hb).2.1
          have oz := fun b hb => (HT.out.z.typed b hb).2.1
          have FP := Lib.hid (hN.p.fr ox oy oz)
          have FQ := Lib.hid (hN.q.fr ox oy oz)
          have FS := Lib.hid (hN.s.fr ox oy oz)
          have RP := Lib.hid rp
          have RQ := Lib.hid rq
          have RS := Lib.hid rs
          have hl1 : ((rowsP c i).length + 1) * 24 ≤ 140737488355328 := by rw [rowsP_len]; omega
          have hl2 : ((rowsP d i).length + 1) * 24 ≤ 140737488355328 := by rw [rowsP_len]; omega
          have hl3 : ((rowsX c d i).length + 1) * 24 ≤ 140737488355328 := by rw [rowsX_len]; omega
          have HL1 := Lib.hid hl1
          have HL2 := Lib.hid hl2
          have HL3 := Lib.hid hl3
          have HB3 := Lib.hid (HB.out.trans (HB2.out.mono hsz))
          have hz3 : w.heap.size ≤ wr.heap.size := Nat.le_trans hsz hsz2
          obtain ⟨P, hP⟩ : ∃ P, pf la 20 = P := ⟨_, rfl⟩
          obtain ⟨Q, hQ⟩ : ∃ Q, pf lb 20 = Q := ⟨_, rfl⟩
          obtain ⟨S, hS⟩ : ∃ S, xf la lb 20 = S := ⟨_, rfl⟩
          have hrs := HRS.out
          rw [hP] at RP hcp hrs ⊢
          rw [hQ] at RQ hcq hrs ⊢
          rw [hS] at RS hcs hrs ⊢
          have HRS2 := Lib.hid hrs
          clear hN rp rq rs ox oy oz hl1 hl2 hl3 hrs hP hQ hS
          go_wp2_with (first
            | (at_builtin; refine append_S w.heap.size rfl (.tmp 83) (.tmp 85) 22 29 rfl Try.underlying22 info_bytes u8 ok (rowsP c i) Ap cp P rfl wr.heap.size rfl rfl HT2.out.x RP.out hcp (fun a ha => ⟨(FP.out a ha).1, (FP.out a ha).2.1⟩) hz3 HL1.out ?_; intro v5 w5 ho5 hg5 hat5; have HT5 := Lib.hid ((HT2.out.app (fun a ha => ⟨(FP.out a ha).1, (FP.out a ha).2.2.1, (FP.out a ha).2.2.2⟩) ho5 hg5 hat5).rot); have hbb5 := HT2.out.x.grown hz3 hg5; have HB5 := Lib.hid (HB3.out.trans hbb5); have hz5 : w.heap.size ≤ w5.heap.size := (by have := hbb5.size; omega); have FQ5 := Lib.hid (FQ.out.app hg5 hat5); have FS5 := Lib.hid (FS.out.app hg5 hat5); have RQ5 := Lib.hid (FQ.out.rn RQ.out hg5); have RS5 := Lib.hid (FS.out.rn RS.out hg5); clear ho5 hg5 hat5 hbb5)
            | (at_builtin; refine append_S w.heap.size rfl (.tmp 87) (.tmp 89) 22 29 rfl Try.underlying22 info_bytes u9 _ (rowsP d i) Aq cq Q rfl w5.heap.size rfl rfl HT5.out.x RQ5.out hcq (fun a ha => ⟨(FQ5.out a ha).1, (FQ5.out a ha).2.1⟩) hz5 HL2.out ?_; intro v6 w6 ho6 hg6 hat6; have HT6 := Lib.hid ((HT5.out.app (fun a ha => ⟨(FQ5.out a ha).1, (FQ5.out a ha).2.2.1, (FQ5.out a ha).2.2.2⟩) ho6 hg6 hat6).rot); have hbb6 := HT5.out.x.grown hz5 hg6; have HB6 := Lib.hid (HB5.out.trans hbb6); have hz6 : w.heap.size ≤ w6.heap.size := (by have := hbb6.size; omega); have FS6 := Lib.hid (FS5.out.app hg6 hat6); have RS6 := Lib.hid (FS5.out.rn RS5.out hg6); clear ho6 hg6 hat6 hbb6)
            | (at_builtin; refine append_S w.heap.size rfl (.tmp 91) (.tmp 93) 22 29 rfl Try.underlying22 info_bytes u10 _ (rowsX c d i) As cs S rfl w6.heap.size rfl rfl HT6.out.x RS6.out hcs (fun a ha => ⟨(FS6.out a ha).1, (FS6.out a ha).2.1⟩) hz6 HL3.out ?_; intro v7 w7 ho7 hg7 hat7; have HT7 := Lib.hid ((HT6.out.app (fun a ha => ⟨(FS6.out a ha).1, (FS6.out a ha).2.2.1, (FS6.out a ha).2.2.2⟩) ho7 hg7 hat7).rot); have hbb7 := HT6.out.x.grown hz6 hg7; have HB7 := Lib.hid (HB6.out.trans hbb7); clear ho7 hg7 hat7 hbb7))
          exact ⟨⟨i + 1, _, by omega, by go_num, by rw [HRS2.out.1, HRS2.out.2.1, HRS2.out.2.2]; exact HT7.out, HB7.out⟩, by simp [intOf]; omega⟩
    · have hd0 : decide ((i : Int) < n) = false := decide_eq_false (by omega)
      obtain rfl : i = n := by omega
      have hT := HT.out
      obtain ⟨X, cx, rfl, hcx, rx⟩ := hT.x.reads
      obtain ⟨Y, cy, rfl, hcy, ry⟩ := hT.y.reads
      obtain ⟨Z, cz, rfl, hcz, rz⟩ := hT.z.reads
      rw [rowsP_len, rowsP_len, rowsX_len]
      have RX := Lib.hid rx
      have RY := Lib.hid ry
      have RZ := Lib.hid rz
      have hk7 : Int.tmod (m : Int) 7 = ((m % 7 : Nat) : Int) := by rw [Int.tmod_eq_emod_of_nonneg (by omega)]; omega
      obtain ⟨k, hk⟩ : ∃ k, m % 7 = k := ⟨_, rfl⟩
      rw [hk] at hk7
      have hlin := HLIN.out
      rw [hk] at hlin
      have HLIN2 := Lib.hid hlin
      have hk6 : k ≤ 6 := by omega
      have hk0 : (0 : Int) ≤ k := by omega
      have hk1 : (k : Int) ≤ 6 := by omega
      clear hT rx ry rz hcx hcy hcz hk hlin HLIN HT HC HD BC BD
      go_wp2_with fail
      refine (HLIN2.out.x X cx _ RX.out).mono ?_
      rintro e w2 ⟨A2, c2, rfl, rr2, hb2⟩
      have R2 := Lib.hid rr2
      have RY2 := Lib.hid (RY.out.below hb2)
      have RZ2 := Lib.hid (RZ.out.below hb2)
      have HB2 := Lib.hid (HB.out.trans (hb2.mono HB.out.size))
      clear rr2 hb2 RX RY RZ HB
      go_wp2_with fail
      refine (HLIN2.out.y Y cy _ RY2.out).mono ?_
      rintro e w3 ⟨A3, c3, rfl, rr3, hb3⟩
      have R3 := Lib.hid rr3
      have R23 := Lib.hid (R2.out.below hb3)
      have RZ3 := Lib.hid (RZ2.out.below hb3)
      have HB3 := Lib.hid (HB2.out.trans (hb3.mono HB2.out.size))
      clear rr3 hb3 R2 RY2 RZ2 HB2
      go_wp2_with fail
      refine (HLIN2.out.z Z cz _ RZ3.out).mono ?_
      rintro e w4 ⟨A4, c4, rfl, rr4, hb4⟩
      have R4 := Lib.hid rr4
      have R34 := Lib.hid (R3.out.below hb4)
      have R24 := Lib.hid (R23.out.below hb4)
      have HB4 := Lib.hid (HB3.out.trans (hb4.mono HB3.out.size))
      have lq := HLIN2.out.lq
      have ls := HLIN2.out.ls
      have hmo := rr4.max
      rw [ls] at hmo
      rw [lq, ls]
      clear rr4 hb4 R3 R23 RZ3 HB3
      have HNE := Lib.hid HLIN2.out.er
      have hne : ((op.length : Int) != op.length) = false := by simp
      have A20 := Lib.hid HLIN2.out.at20
      have AX := Lib.hid HLIN2.out.xor
      have LQ := Lib.hid lq
      have LS := Lib.hid ls
      have hee : (er != er) = false := by simp
      have hee2 : (er == 0) = decide (0 < i) := by
        rw [HNE.out]
        by_cases h0 : 0 < i
        · rw [if_pos h0, decide_eq_true h0]; rfl
        · rw [if_neg h0, decide_eq_false h0]; rfl
      clear lq ls HLIN2
      go_wp2_with fail
      go_loopw [25] (fun vi W => ∃ q : Nat, q ≤ op.length ∧ vi = .int .i64 q ∧ Drawn0 w4 W) (fun vi _ => op.length - (intOf vi).toNat)
      case atStart => exact ⟨0, by omega, rfl, Drawn0.refl _⟩
      case round =>
        obtain ⟨q, hq, rfl, hW⟩ := hrel
        have HW := Lib.hid hW
        clear hW
        by_cases hql : q < op.length
        · have hdq : decide ((q : Int) < op.length) = true := decide_eq_true (by omega)
          have hq2 : q < oq.length := by rw [LQ.out]; exact hql
          have hq3 : q < os.length := by rw [LS.out]; exact hql
          obtain ⟨h21, h22, h23⟩ := A20.out q hql hq2 hq3
          have hax := AX.out q hql hq2 hq3
          obtain ⟨ed, E2, e2, e, y2, lh2, r2⟩ := R24.out.at q hql
          subst e
          obtain ⟨fd, E3, e3, e, y3, lh3, r3⟩ := R34.out.at q hq2
          subst e
          obtain ⟨gd, E4, e4, e, y4, lh4, r4⟩ := R4.out.at q hq3
          subst e
          rw [h21] at y2
          rw [h22] at y3
          rw [h23] at y4
          obtain ⟨l2, hl2⟩ : ∃ l, op[q] = l := ⟨_, rfl⟩
          obtain ⟨l3, hl3⟩ : ∃ l, oq[q] = l := ⟨_, rfl⟩
          obtain ⟨l4, hl4⟩ : ∃ l, os[q] = l := ⟨_, rfl⟩
          rw [hl2] at r2 h21
          rw [hl3] at r3 h22
          rw [hl4] at r4 h23
          rw [hl2, hl3, hl4] at hax
          have HY2 := Lib.hid y2
          have HY3 := Lib.hid y3
          have HY4 := Lib.hid y4
          have x2 := (HW.out.below.cell (World.block_lt_of_cell? _ _ y2)).trans y2
          have x3 := (HW.out.below.cell (World.block_lt_of_cell? _ _ y3)).trans y3
          have x4 := (HW.out.below.cell (World.block_lt_of_cell? _ _ y4)).trans y4
          have HAX := Lib.hid hax
          have R2 := Lib.hid r2
          have R3 := Lib.hid r3
          have R5 := Lib.hid r4
          have H21 := Lib.hid h21
          have H22 := Lib.hid h22
          have H23 := Lib.hid h23
          have q0 : (0 : Int) ≤ (q : Int) := by omega
          have q1 : (q : Int) < (op.length : Int) := by omega
          clear hax y2 y3 y4 r2 r3 r4 h21 h22 h23 hl2 hl3 hl4 lh2 lh3 lh4 hq2 hq3
          go_wp2_with fail
          clear x2 x3 x4
          go_loopw [26] (fun vj W => ∃ j : Nat, j ≤ 20 ∧ vj = .int .i64 j ∧ Drawn0 w4 W) (fun vj _ => 20 - (intOf vj).toNat)
          case atStart => exact ⟨0, by omega, rfl, HW.out⟩
          case round =>
            obtain ⟨j, hj, rfl, hV⟩ := hrel
            have HV := Lib.hid hV
            clear hV
            by_cases hjl : j < 20
            · have hdj : decide ((j : Int) < 20) = true := decide_eq_true (by omega)
              have j2 : j < l2.length := by rw [H21.out]; exact hjl
              have j3 : j < l3.length := by rw [H22.out]; exact hjl
              have j4 : j < l4.length := by rw [H23.out]; exact hjl
              obtain ⟨e2d, e, z2⟩ := (R2.out.below HV.out.below).at j j2
              subst e
              obtain ⟨e3d, e, z3⟩ := (R3.out.below HV.out.below).at j j3
              subst e
              obtain ⟨e4d, e, z4⟩ := (R5.out.below HV.out.below).at j j4
              subst e
              obtain ⟨hx, lx, ly⟩ := HAX.out j hjl
              rw [show l2.getD j 0 = l2[j] by simp [List.getD_eq_getElem?_getD, j2], show l3.getD j 0 = l3[j] by simp [List.getD_eq_getElem?_getD, j3], show l4.getD j 0 = l4[j] by simp [List.getD_eq_getElem?_getD, j4]] at hx
              rw [show l2.getD j 0 = l2[j] by simp [List.getD_eq_getElem?_getD, j2]] at lx
              rw [show l3.getD j 0 = l3[j] by simp [List.getD_eq_getElem?_getD, j3]] at ly
              rw [hx] at z4
              obtain ⟨x, hxe⟩ : ∃ x, l2[j] = x := ⟨_, rfl⟩
              obtain ⟨y, hye⟩ : ∃ y, l3[j] = y := ⟨_, rfl⟩
              rw [hxe] at z2 z4 lx
              rw [hye] at z3 z4 ly
              have hxy := u8_xor_nat x y lx ly
              have j0 : (0 : Int) ≤ (j : Int) := by omega
              have j1 : (j : Int) < 20 := by omega
              have y2 := (HV.out.below.cell (World.block_lt_of_cell? _ _ HY2.out)).trans HY2.out
              have y3 := (HV.out.below.cell (World.block_lt_of_cell? _ _ HY3.out)).trans HY3.out
              have y4 := (HV.out.below.cell (World.block_lt_of_cell? _ _ HY4.out)).trans HY4.out
              clear hx hxe hye j2 j3 j4
              go_wp2_with fail
              go_quiet (fail)
              go_wp2_with fail
              exact ⟨⟨j + 1, by omega, by go_num, HV.out.step _⟩, by simp [intOf]; omega⟩
            · have hdj : decide ((j : Int) < 20) = false := decide_eq_false (by omega)
              go_wp2_with fail
              exact ⟨⟨q + 1, by omega, by go_num, HV.out⟩, by simp [intOf]; omega⟩
        · have hdq : decide ((q : Int) < op.length) = false := decide_eq_false (by omega)
          go_wp2_with fail
          refine (live_c _).mono ?_
          rintro e w5 ⟨rfl, hb5⟩
          have HB5 := Lib.hid ((HB4.out.trans (HW.out.below.mono HB4.out.size)).trans (hb5.mono (by have := HB4.out.size; have := HW.out.below.size; omega)))
          clear hb5
          go_wp2_with fail
          go_ret
          exact ⟨rfl, HB5.out⟩
end Go.Proofs.Ytdmfecaejdiihaa.F
