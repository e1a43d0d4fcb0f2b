/- Bytes written to a sum that goes on, walked. -/
import Derived.Test.YtejmklfhcealnaaDg
set_option linter.unusedVariables false
set_option linter.unusedSimpArgs false
set_option maxRecDepth 20000
namespace Go.Proofs.Ytejmklfhcealnaa.F
open Go.RowKit Go.Proofs.YtejmklfhcealnaaW.PrintWords
attribute [local go_sem ↓] Go.wp_at_zero Go.wp_at_succ

/-- 'b[m:]' of a row that is there. -/
theorem cut_at (m n c : Nat) (ad : Addr) (hm : m ≤ n) (hc : n ≤ c) :
    ∃ ad' : Addr, (∀ W : World, (Instr.slice 27 (.slice (some ad) n c) (some (.int .i64 (m : Int))) none none).run Try.prog W = .ok (.slice (some ad') (n - m) (c - m)) W) ∧ ad'.block = ad.block ∧
      ∀ (w : World) (xs : List Nat), xs.length = n → RN .u8 w (some ad) xs → RN .u8 w (some ad') (xs.drop m) := by
  obtain ⟨i, hi, hsz⟩ := info_u8'
  obtain ⟨A', h1, h2, h3⟩ := RN.cut (P := Try.prog) 27 5 .u8 Try.underlying27 hi hsz (some ad) n c m hm
  cases A' with
  | none =>
    exfalso
    have hu : Try.prog.underlying 27 = some (.slice (Try.prog.elem 27)) := by rw [show Try.prog.elem 27 = 5 by simp [Program.elem, Try.underlying27]]; exact Try.underlying27
    have h := h1 default
    rw [run_slice_l default 27 (some ad) n c hu .i64 (m : Int) (Int.natCast_nonneg _) (by omega)] at h
    have hel : Try.prog.elem 27 = 5 := by simp [Program.elem, Try.underlying27]
    rw [hel] at h
    by_cases hcm : c = m
    · simp [sizeOf, typeInfo, hi, hsz, sliced, Result.andThen, hcm] at h
    · simp [sizeOf, typeInfo, hi, hsz, sliced, Result.andThen, hcm] at h
  | some ad' =>
    obtain ⟨b, e, hb⟩ := h2 ad' rfl
    injection e with e
    subst e
    exact ⟨ad', h1, hb, fun w xs hx hr => h3 w xs hx (by omega) hr⟩

theorem drop_next (ys : List Nat) (j : Nat) : (ys.drop (64 * j)).drop 64 = ys.drop (64 * (j + 1)) := by rw [List.drop_drop, show 64 * j + 64 = 64 * (j + 1) by omega]
theorem below_drew' {W W' : World} {B : Nat} (h : Below B W.drew W') : Below B W W' := ⟨h.os, h.tape, h.output, h.size, h.block⟩
def lenV : Value → Nat
  | .slice _ k _ => k
  | _ => 0
set_option maxHeartbeats 4000000 in
theorem Write_c (B : Nat) (s : St) (C : Option Addr) (c : Nat) (xs : List Nat) (n : Nat) (A : Option Addr) (d : Nat) (ps : List Nat) (W : World) (hs : s.ok) (h : HB W B s (.slice C xs.length c) n) (hC : RN .u8 W C xs) (hcc : xs.length ≤ c) (hCn : C = none → c = 0) (hx : ∀ x ∈ xs, x < 256)
    (hp : RN .u8 W A ps) (hpb : ∀ x ∈ ps, x < 256) (hn : n + ps.length ≤ 4611686018427387904) (hl : xs.length + ps.length ≤ 140737488355328) :
    Calls Try.prog 51 #[.pointer (some ⟨B, 0, none⟩), .slice A ps.length d] W fun e W' => e = .returned (.int .i64 0) ∧ ∃ C' c',
      HB W' B (mixes s (xs ++ ps) ((xs ++ ps).length / 64)) (.slice C' ((xs ++ ps).drop (64 * ((xs ++ ps).length / 64))).length c') (n + ps.length) ∧ RN .u8 W' C' ((xs ++ ps).drop (64 * ((xs ++ ps).length / 64))) ∧
      ((xs ++ ps).drop (64 * ((xs ++ ps).length / 64))).length ≤ c' ∧ (C' = none → c' = 0) ∧ (∀ a, C' = some a → W.heap.size ≤ a.block) ∧ ButB B W.heap.size W W' := by
  have hBl := h.lt
  have hyb : ∀ x ∈ xs ++ ps, x < 256 := by
    intro x hx'
    rcases List.mem_append.1 hx' with h1 | h1
    · exact hx x h1
    · exact hpb x h1
  obtain ⟨k0, k1, k2, k3, k4, k5, k6, k7, k8, k9⟩ := h.cells
  have f9 := h.free 9
  have hn1 : (n : Int) + ps.length ≤ 4611686018427387904 := by omega
  have h1 := h.size (n + ps.length)
  have hbb1 : ButB B W.heap.size W (W.setCell ⟨B, 9, none⟩ (.int .i64 (n + ps.length : Nat))) := (ButB.refl _ _ _).setCell 9 _
  obtain ⟨W1, hW1⟩ : ∃ W1, W.setCell ⟨B, 9, none⟩ (.int .i64 (n + ps.length : Nat)) = W1 := ⟨_, rfl⟩
  rw [hW1] at h1 hbb1
  have hs1 : W1.heap.size = W.heap.size := by rw [← hW1]; simp
  have hC1 := hC.apart h (W' := W1) (fun k hk hb => hbb1.block k hk hb)
  have hp1 := hp.apart h (W' := W1) (fun k hk hb => hbb1.block k hk hb)
  have q8 := h1.cells.2.2.2.2.2.2.2.2.1
  have hW1' : W.setCell ⟨B, 9, none⟩ (.int .i64 ((n : Int) + ps.length)) = W1 := by rw [← hW1]; norm_cast
  have HW1 := Lib.hid hW1'
  have H := Lib.hid h1
  have HBB := Lib.hid hbb1
  have HC := Lib.hid hC1
  have HP := Lib.hid hp1
  have HN := Lib.hid hn
  have HL := Lib.hid hl
  clear k0 k1 k2 k3 k4 k5 k6 k7 q8 hW1 hW1' h1 hbb1 hC1 hp1 h hC hp hx hpb hn hl
  go_enter Try.func51, Try.ntmps51
  go_wp2_with fail
  rw [HW1.out]
  refine (Clone_c C c xs _ HC.out hcc (by have := HL.out; omega) hCn).mono ?_
  rintro e w2 ⟨v2, rfl, ho2, hb2⟩
  have hs2 := hb2.size
  have HO2 := Lib.hid ho2
  have HB2 := Lib.hid hb2
  have HP2 := Lib.hid (HP.out.below hb2)
  have H2 := Lib.hid (H.out.below hb2)
  have hbb2 : ButB B W.heap.size W w2 := HBB.out.trans (ButB.of (hb2.mono (by omega)))
  have HBB2 := Lib.hid hbb2
  have hbase : W1.heap.size ≤ w2.heap.size := hs2
  have hlen : (xs.length + ps.length) * 1 ≤ 140737488355328 := by have := HL.out; omega
  have HLEN := Lib.hid hlen
  clear ho2 hb2 hbb2 k8 k9 f9 hlen
  go_wp2_with (at_builtin; refine append_NN W1.heap.size rfl (.tmp 21) (.tmp 22) 27 5 .u8 1 rfl Try.underlying27 info_u8 (by decide) v2 xs ps A d rfl rfl HO2.out HP2.out hbase HLEN.out ?_; intro v3 w3 ho3 hg3 hat3)
  have hb3 := below_grown HO2.out hbase hg3
  have hbb3 : ButB B W.heap.size W w3 := HBB2.out.trans (ButB.of (hb3.mono (by omega)))
  have h3 : HB w3 B s (.slice C xs.length c) (n + ps.length) := H2.out.move (hb3.block B (by omega))
  obtain ⟨A3, c3, rfl, hc3, hn3, hA3, hr3⟩ := ho3.form
  have hA3' : ∀ a, A3 = some a → W.heap.size ≤ a.block := fun a ha => by have := (hA3 a ha).1; omega
  obtain ⟨ys, hys⟩ : ∃ ys, xs ++ ps = ys := ⟨_, rfl⟩
  have hly : ys.length ≤ 140737488355328 := by rw [← hys, List.length_append]; exact HL.out
  have hnn : n + ps.length ≤ 4611686018427387904 := HN.out
  obtain ⟨m, hm⟩ : ∃ m, n + ps.length = m := ⟨_, rfl⟩
  rw [hys] at hc3 hr3 hyb ⊢
  rw [hm] at h3
  have HYS := Lib.hid hys
  have HH3 := Lib.hid h3
  have HBB3 := Lib.hid hbb3
  have HR3 := Lib.hid hr3
  have HA3 := Lib.hid hA3'
  have HN3 := Lib.hid hn3
  have HYB := Lib.hid hyb
  have HNM := Lib.hid hm
  clear ho3 hg3 hat3 hb3 hbb3 h3 hA3 hA3' hr3 hn3 hyb hys hs1 hs2 hbase hnn hm hCn hn1
  clear HW1 H HBB HC HP HN HL HO2 HB2 HP2 H2 HBB2 HLEN
  go_loopw [5] (fun vb Wr => ∃ (j : Nat) (A5 : Option Addr) (c5 : Nat), 64 * j ≤ ys.length ∧ vb = .slice A5 (ys.drop (64 * j)).length c5 ∧ RN .u8 Wr A5 (ys.drop (64 * j)) ∧ (ys.drop (64 * j)).length ≤ c5 ∧ (A5 = none → c5 = 0) ∧ (∀ a, A5 = some a → W.heap.size ≤ a.block) ∧ HB Wr B (mixes s ys j) (.slice C xs.length c) m ∧ ButB B W.heap.size W Wr) (fun vb _ => lenV vb)
  case atStart => exact ⟨0, A3, c3, by omega, by simp, by simpa using HR3.out, by simpa using hc3, HN3.out, HA3.out, HH3.out, HBB3.out⟩
  case round =>
    obtain ⟨j, A5, c5, hj, rfl, hr5, hc5, hn5, hA5, h5, hbb5⟩ := hrel
    have hl5 := hr5.max
    by_cases hge : 64 ≤ (ys.drop (64 * j)).length
    · have hd : decide ((64 : Int) ≤ (ys.drop (64 * j)).length) = true := decide_eq_true (by omega)
      obtain ⟨ad, e, hx5⟩ := hr5.at 0 (by omega)
      subst e
      clear hx5
      have hok := mixes_ok hs ys j
      have hnext : mixes s ys (j + 1) = mixS (mixes s ys j) ((ys.drop (64 * j)).take 64) := rfl
      have hdn := drop_next ys j
      obtain ⟨zs, hzs⟩ : ∃ zs, ys.drop (64 * j) = zs := ⟨_, rfl⟩
      obtain ⟨t, ht⟩ : ∃ t, mixes s ys j = t := ⟨_, rfl⟩
      have hzb : ∀ x ∈ zs.take 64, x < 256 := fun x hx => HYB.out x (by rw [← hzs] at hx; exact List.mem_of_mem_drop (List.mem_of_mem_take hx))
      have hzl : ys.length = 64 * j + zs.length := by rw [← hzs, List.length_drop]; omega
      rw [hzs] at hr5 hc5 hge hdn hl5 hnext hd ⊢
      rw [ht] at h5 hok hnext
      obtain ⟨ad', hcut, hblk, hcutr⟩ := cut_at 64 zs.length c5 ad hge hc5
      have h64 : (zs.take 64).length = 64 := by rw [List.length_take]; omega
      have hmx := fun (W' : World) (hW : RN .u8 W' (some ad) zs) => mixed_c t (some ad) c5 (zs.take 64) W' hok (hW.take 64 hge) hzb h64 (by omega)
      obtain ⟨t2, ht2⟩ : ∃ t2, mixS t (zs.take 64) = t2 := ⟨_, rfl⟩
      rw [ht2] at hmx hnext
      unfold St.val at hmx
      obtain ⟨q0, q1, q2, q3, q4, q5, q6, q7, q8, q9⟩ := h5.cells
      have i64 : (64 : Int) ≤ c5 := by omega
      have HMX := Lib.hid hmx
      have hcut2 : ∀ W : World, (Instr.slice 27 (.slice (some ad) zs.length c5) (some (.int .i64 64)) none none).run Try.prog W = .ok (.slice (some ad') (zs.length - 64) (c5 - 64)) W := hcut
      have HC := Lib.hid hcut2
      have HB5 := Lib.hid h5
      have HR5 := Lib.hid hr5
      clear hzs ht ht2 hmx hcut hcut2 h5 hr5 q8 q9 h64 hzb hok hn5
      have HNX := Lib.hid hnext
      have HDN := Lib.hid hdn
      have HCR := Lib.hid hcutr
      have HA5 := Lib.hid hA5
      have HBK := Lib.hid hblk
      have HZL := Lib.hid hzl
      clear hnext hdn hcutr hA5 hblk hzl
      have hBr : B < wr.heap.size := by have := hbb5.size; omega
      go_wp2_with fail
      go_region_with ((go_at_call 59; refine (HMX.out wr.drew (HR5.out.move (fun _ _ => rfl))).mono ?_; rintro e w6 ⟨rfl, hb6⟩; have h6 : HB w6 B t (.slice C xs.length c) m := HB5.out.move (hb6.block B hBr); obtain ⟨p0, p1, p2, p3, p4, p5, p6, p7, p8, p9⟩ := h6.cells; have z0 := h6.free 0; have z1 := h6.free 1; have z2 := h6.free 2; have z3 := h6.free 3; have z4 := h6.free 4; have z5 := h6.free 5; have z6 := h6.free 6; have z7 := h6.free 7))
      have h7 := h6.put8 t2
      have hb7 : ButB B W.heap.size W (put8 w6 B t2) := (hbb5.trans (ButB.of ((below_drew' hb6).mono hbb5.size))).put8 t2
      have hr7 : RN .u8 (put8 w6 B t2) (some ad') (zs.drop 64) := (HCR.out w6 zs rfl ((HR5.out.move (fun _ _ => rfl) : RN .u8 wr.drew (some ad) zs).below hb6)).apart h6 (fun k hk hb => (ButB.put8 (ButB.refl B (k + 1) w6) t2).block k (by omega) hb)
      obtain ⟨W7, hW7⟩ : ∃ W7, put8 w6 B t2 = W7 := ⟨_, rfl⟩
      rw [hW7] at h7 hb7 hr7
      change Exit.then _ _ _ _ (put8 w6 B t2)
      rw [hW7]
      have hld : (zs.drop 64).length = zs.length - 64 := List.length_drop
      have H7 := Lib.hid h7
      have HB7 := Lib.hid hb7
      have HR7 := Lib.hid hr7
      have HLD := Lib.hid hld
      clear hW7 h7 hb7 hr7 hld h6 hb6 p0 p1 p2 p3 p4 p5 p6 p7 p8 p9 z0 z1 z2 z3 z4 z5 z6 z7 q0 q1 q2 q3 q4 q5 q6 q7 hbb5
      have hcut := HC.out
      go_wp2_with fail
      refine ⟨⟨j + 1, some ad', c5 - 64, by have := HZL.out; omega, ?_, by rw [← HDN.out]; exact HR7.out, by rw [← HDN.out, HLD.out]; omega, fun h => (by cases h), fun a ha => ?_, by rw [HNX.out]; exact H7.out, HB7.out⟩, ?_⟩
      · rw [← HDN.out, HLD.out]
      · injection ha with ha
        subst ha
        rw [HBK.out]
        exact HA5.out ad rfl
      · simp only [lenV]; omega
    · have hjk : j = ys.length / 64 := by rw [List.length_drop] at hge; omega
      have hzs0 : ys.drop (64 * (ys.length / 64)) = ys.drop (64 * j) := by rw [← hjk]
      obtain ⟨zs, hzs⟩ : ∃ zs, ys.drop (64 * j) = zs := ⟨_, rfl⟩
      rw [hzs] at hr5 hc5 hge hl5 hzs0 ⊢
      have hd : decide ((64 : Int) ≤ zs.length) = false := decide_eq_false (by omega)
      have q8 := h5.cells.2.2.2.2.2.2.2.2.1
      have z8 := h5.free 8
      have h8 := h5.rest (.slice A5 zs.length c5)
      have hb8 := hbb5.setCell 8 (.slice A5 zs.length c5)
      have hr8 : RN .u8 (wr.setCell ⟨B, 8, none⟩ (.slice A5 zs.length c5)) A5 zs := hr5.apart h5 (fun k hk hb => heap_setCell_other _ _ _ _ hb)
      rw [hjk] at h8
      have H8 := Lib.hid h8
      have HB8 := Lib.hid hb8
      have HR8 := Lib.hid hr8
      have HJ := Lib.hid hzs0
      have HC5 := Lib.hid hc5
      have HN5 := Lib.hid hn5
      have HA5 := Lib.hid hA5
      clear h8 hb8 hr8 hjk hc5 hn5 hA5 hr5 h5 hbb5 hzs hzs0
      go_wp2_with fail
      go_ret
      refine ⟨rfl, A5, c5, ?_⟩
      rw [HYS.out, HNM.out, HJ.out]
      exact ⟨H8.out, HR8.out, HC5.out, HN5.out, HA5.out, HB8.out⟩
end Go.Proofs.Ytejmklfhcealnaa.F
