/- The bytes fed. -/
import Derived.Test.YtbckibjpaiealaaGw
set_option linter.unusedVariables false
set_option linter.unusedSimpArgs false
namespace Go.Proofs.Ytbckibjpaiealaa.F
open Go.RowKit Go.Proofs.YtbckibjpaiealaaW.PrintWords

def gstep (mn av mx : Nat) (tb : List Nat) (s : List (List Nat) × List Nat) (b : Nat) : List (List Nat) × List Nat :=
  if endsAt mn av mx tb (s.2 ++ [b]) = true then (s.1 ++ [s.2 ++ [b]], []) else (s.1, s.2 ++ [b])
theorem gstep_len (mn av mx : Nat) (tb : List Nat) (s : List (List Nat) × List Nat) (b : Nat) : (gstep mn av mx tb s b).1.length + (gstep mn av mx tb s b).2.length ≤ s.1.length + s.2.length + 1 := by
  unfold gstep; split <;> simp <;> omega
theorem gfold_len (mn av mx : Nat) (tb : List Nat) (p : List Nat) (s : List (List Nat) × List Nat) : (p.foldl (gstep mn av mx tb) s).1.length + (p.foldl (gstep mn av mx tb) s).2.length ≤ s.1.length + s.2.length + p.length := by
  induction p generalizing s with
  | nil => simp
  | cons b p ih => have := ih (gstep mn av mx tb s b); have := gstep_len mn av mx tb s b; simp; omega
theorem take_snoc (p : List Nat) (k : Nat) (h : k < p.length) : p.take (k + 1) = p.take k ++ [p[k]] := by
  rw [List.take_succ_eq_append_getElem h]

theorem big1 {a b c d e N : Nat} (h : a + b ≤ c + d + e) (hl : (c + d + e + 1) * 24 ≤ N) : (a + 1) * 24 ≤ N := Nat.le_trans (Nat.mul_le_mul_right 24 (Nat.succ_le_succ (Nat.le_trans (Nat.le_add_right a b) h))) hl
theorem big2 {a b c d e N : Nat} (h : a + b ≤ c + d + e) (hl : (c + d + e + 1) * 24 ≤ N) : b < N := Nat.lt_of_lt_of_le (Nat.lt_of_lt_of_le (Nat.lt_succ_of_le (Nat.le_trans (Nat.le_add_left b a) h)) (Nat.le_mul_of_pos_right _ (by decide))) hl
theorem RN.move2 {k : IntKind} {W W' : World} {A : Option Addr} {xs : List Nat} (h : RN k W A xs) (hm : ∀ a, A = some a → 0 < xs.length → W'.heap[a.block]? = W.heap[a.block]?) : RN k W' A xs := by
  have hr := Kd.reads_of_C (enc := encN k) (d := 0) (h1 := fun _ => rfl) h
  refine Kd.C_of_reads (d := 0) ⟨hr.1, hr.2.1, fun hp => ?_⟩
  obtain ⟨ad, e, hc⟩ := hr.2.2 hp
  refine ⟨ad, e, fun j hj => ?_⟩
  have hq : W'.cell? (ad.add j) = W.cell? (ad.add j) := cell_move (by rw [add_blk]; exact hm ad e hp)
  exact hq.trans (hc j hj)
theorem RN.lt {k : IntKind} {W : World} {A : Option Addr} {xs : List Nat} (h : RN k W A xs) : ∀ a, A = some a → 0 < xs.length → a.block < W.heap.size := fun a ha hp => by
  obtain ⟨ad, e, hc⟩ := h.at 0 hp
  rw [ha] at e; cases e
  have := World.block_lt_of_cell? W _ hc
  rwa [add_blk] at this
set_option maxRecDepth 20000 in
set_option maxHeartbeats 2000000 in
theorem feed_c (W : World) (base O V B : Nat) (mn av mx : Nat) (tb : List Nat) (okc : Nat → Prop) (vo : Value) (css : List (List Nat)) (hv : Value) (xs : List Nat) (A : Option Addr) (c : Nat) (p : List Nat) (ht : tb.length = 256) (hav : 1 ≤ av) (hav2 : av ≤ 256)
    (h : FS W base O V B mn av mx tb okc vo css hv xs) (hr : RN .u8 W A p) (hp : ∀ x ∈ p, x < 256) (hA : ∀ a, A = some a → 0 < p.length → a.block < base ∧ a.block ≠ B) (hl : (css.length + xs.length + p.length + 1) * 24 ≤ 140737488355328) :
    Calls Try.prog 26 #[.slice A p.length c, .func (.func 27) #[.pointer (some ⟨B, 0, none⟩)] #[], .func (.func 28) #[] #[.pointer (some ⟨O, 0, none⟩), .pointer (some ⟨V, 0, none⟩)]] W fun e w' =>
      ∃ vo' okc' hv', e = .returned (.tuple #[]) ∧ FS w' base O V B mn av mx tb okc' vo' (p.foldl (gstep mn av mx tb) (css, xs)).1 hv' (p.foldl (gstep mn av mx tb) (css, xs)).2 ∧ KF base B W w' := by
  have hm := hr.max
  have HH := Lib.hid h
  have hg27 : ∀ args W, Sem.run Try.prog (callFunc 27 args) W = .ok (.enter 27 args) W := fun _ _ => by kernel_rfl
  have hg28 : ∀ args W, Sem.run Try.prog (callFunc 28 args) W = .ok (.enter 28 args) W := fun _ _ => by kernel_rfl
  have HL := Lib.hid hl
  clear h hl
  go_enter Try.func26, Try.ntmps26
  go_wp2_with fail
  go_loopw [10] (fun vk W' => ∃ (k : Nat) (okc' : Nat → Prop) (vo' hv' : Value), k ≤ p.length ∧ vk = .int .i64 k ∧ FS W' base O V B mn av mx tb okc' vo' ((p.take k).foldl (gstep mn av mx tb) (css, xs)).1 hv' ((p.take k).foldl (gstep mn av mx tb) (css, xs)).2 ∧ KF base B W W') (fun vk _ => p.length - (intOf vk).toNat)
  case atStart => exact ⟨0, okc, vo, hv, by omega, rfl, HH.out, KF.refl _ _ _⟩
  case round =>
    obtain ⟨k, okc', vo', hv', hk, rfl, hfs, hkf⟩ := hrel
    have HF := Lib.hid hfs
    have HK := Lib.hid hkf
    clear hfs hkf
    by_cases hlt : k < p.length
    · have hd : decide ((k : Int) < p.length) = true := by simp; omega
      have hrr : RN .u8 wr A p := hr.move (fun a ha => HK.out.block a.block (hA a ha (by omega)).1 (hA a ha (by omega)).2)
      obtain ⟨ad, hAe, hcell⟩ := hrr.at k hlt
      have hbk := hp p[k] (List.getElem_mem hlt)
      obtain ⟨b, hb⟩ : ∃ b, p[k] = b := ⟨_, rfl⟩
      rw [hb] at hcell hbk
      have HB := Lib.hid hb
      clear hb
      subst hAe
      have hlen := gfold_len mn av mx tb (p.take k) (css, xs)
      have hfs := HF.out
      have hsn : (p.take (k + 1)).foldl (gstep mn av mx tb) (css, xs) = gstep mn av mx tb ((p.take k).foldl (gstep mn av mx tb) (css, xs)) b := by
        rw [take_snoc p k hlt, List.foldl_append, HB.out]; rfl
      obtain ⟨s, hs⟩ : ∃ s, (p.take k).foldl (gstep mn av mx tb) (css, xs) = s := ⟨_, rfl⟩
      rw [hs] at hlen hfs hsn
      have hlen2 : s.1.length + s.2.length ≤ css.length + xs.length + p.length := by
        have : (p.take k).length ≤ p.length := by rw [List.length_take]; omega
        simp only at hlen
        omega
      have HS := Lib.hid hsn
      have HF2 := Lib.hid hfs
      clear hs hsn hfs hlen HF
      obtain ⟨css', xs'⟩ := s
      replace hlen2 : css'.length + xs'.length ≤ css.length + xs.length + p.length := hlen2
      have hl2 : (css'.length + 1) * 24 ≤ 140737488355328 := big1 hlen2 HL.out
      have hl3 : xs'.length < 140737488355328 := big2 hlen2 HL.out
      have HL2 := Lib.hid hl2
      have HL3 := Lib.hid hl3
      clear hl2 hl3
      have hbase := HF2.out.base_le
      go_wp2_with fail
      refine (take_c B mn av mx tb xs' hv' b wr base ht hbk hav hav2 HF2.out.cu HF2.out.oh HL3.out hbase).mono ?_
      rintro e w1 ⟨hv1, rfl, hcu1, ho1, hat1, hkb1⟩
      have hf1 := HF2.out.take hcu1 ho1 hat1 hkb1
      have HF3 := Lib.hid hf1
      clear hcu1 ho1 hat1 hkb1 hf1
      obtain ⟨en, hen⟩ : ∃ en, endsAt mn av mx tb (xs' ++ [b]) = en := ⟨_, rfl⟩
      rw [hen]
      have hst : gstep mn av mx tb (css', xs') b = if en = true then (css' ++ [xs' ++ [b]], []) else (css', xs' ++ [b]) := by rw [gstep, hen]
      have HST := Lib.hid hst
      clear hst hen
      cases en
      · go_wp2_with fail
        refine ⟨⟨k + 1, okc', vo', hv1, by omega, by go_num, ?_, HK.out.trans HF3.out.2⟩, by simp [intOf]; omega⟩
        rw [HS.out, HST.out]
        exact HF3.out.1
      · go_wp2_with fail
        refine (ends_c w1 base O V B mn av mx tb okc' vo' css' hv1 (xs' ++ [b]) ht HF3.out.1 HL2.out).mono ?_
        rintro e w2 ⟨vo2, okc2, rfl, hf2, hk2⟩
        have HF4 := Lib.hid hf2
        have HK4 := Lib.hid hk2
        clear hf2 hk2
        go_wp2_with fail
        refine ⟨⟨k + 1, okc2, vo2, .slice none 0 0, by omega, by go_num, ?_, (HK.out.trans HF3.out.2).trans HK4.out⟩, by simp [intOf]; omega⟩
        rw [HS.out, HST.out]
        exact HF4.out
    · have hd : decide ((k : Int) < p.length) = false := by simp; omega
      have hke : k = p.length := by omega
      have h1 := HF.out
      rw [show p.take k = p by rw [hke]; exact List.take_length] at h1
      go_wp2_with fail
      go_end0
      exact ⟨_, _, _, rfl, h1, HK.out⟩
end Go.Proofs.Ytbckibjpaiealaa.F
