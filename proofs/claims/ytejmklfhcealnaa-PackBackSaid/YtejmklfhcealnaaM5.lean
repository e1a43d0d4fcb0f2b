/- Numbers and the table, by the document. -/
import Derived.Test.YtejmklfhcealnaaK4
import Derived.Test.YtejmklfhcealnaaDy
import Derived.Laws.IdiomStrings
import Derived.Deep.DrawnRows
import Derived.Lib.AppendStr
import Derived.Test.YtejmklfhcealnaaRq
import Derived.Test.YtejmklfhcealnaaM3
set_option linter.unusedVariables false
set_option linter.unusedSimpArgs false
namespace Go.Proofs.Ytejmklfhcealnaa.F
open Go.RowKit Go.Proofs.YtejmklfhcealnaaW.PrintWords
attribute [local go_sem ↓] Go.wp_at_zero Go.wp_at_succ

theorem bigN_succ (i n : Nat) : bigN (i + 1) n = n / 256 ^ i % 256 :: bigN i n := by
  unfold bigN
  rw [List.range_succ_eq_map, List.map_cons, List.map_map]
  congr 1
  apply List.map_congr_left
  intro t _
  show n / 256 ^ (i + 1 - 1 - (t + 1)) % 256 = _
  rw [show i + 1 - 1 - (t + 1) = i - 1 - t by omega]
theorem bigN_zero (n : Nat) : bigN 0 n = [] := rfl
theorem one_u8 (w : World) (m : Nat) : OwnN .u8 5 (w.alloc (.cells #[.int .u8 (m : Nat)] 5)) w.heap.size (.slice (some ⟨w.heap.size, 0, none⟩) 1 1) [m] := by
  have := own_lit_of (enc := encN .u8) w w.heap.size 5 [m] (by simp) (by simp)
  simp only [List.map_cons, List.map_nil, List.length_cons, List.length_nil, encs] at this
  exact this
set_option maxHeartbeats 1000000 in
theorem Fixed_r (n k : Nat) (w : World) (hk1 : 1 ≤ k) (hk4 : k ≤ 4) (hn : n < 256 ^ k) :
    Calls Try.prog 53 #[.int .i64 (n : Nat), .int .i64 (k : Nat)] w fun e w' => ∃ v, e = .returned (.tuple #[v, .int .i64 0]) ∧ OwnN .u8 5 w' w.heap.size v (bigN k n) ∧ Below w.heap.size w w' := by
  have hn4 : n < 4294967296 := by
    have : (256 : Nat) ^ k ≤ 256 ^ 4 := Nat.pow_le_pow_right (by decide) hk4
    have : (256 : Nat) ^ 4 = 4294967296 := by decide
    omega
  have d1 : decide ((k : Int) < 1) = false := decide_eq_false (by omega)
  have d2 : decide ((8 : Int) < k) = false := decide_eq_false (by omega)
  have d3 : decide ((n : Int) < 0) = false := decide_eq_false (by omega)
  have d4 : decide ((9007199254740991 : Int) < (n : Int)) = false := decide_eq_false (by omega)
  have HN := Lib.hid hn
  have hE := emptyV 5 1 w
  have HE : Hid (OwnN .u8 5 (w.alloc (.cells #[] 5)) w.heap.size (.slice (some ⟨w.heap.size, 0, none⟩) 0 0) []) := Lib.hid hE
  have HBE := Lib.hid ((Below.refl w.heap.size w).alloc (Nat.le_refl _) (.cells #[] 5))
  clear hn hE
  go_enter Try.func53, Try.ntmps53
  go_wp2_with fail
  go_loopw [0, 6, 7] (fun vn vo vi W => ∃ i : Nat, i ≤ k ∧ vi = .int .i64 i ∧ vn = .int .i64 (n / 256 ^ i : Nat) ∧ OwnN .u8 5 W w.heap.size vo (bigN i n) ∧ Below w.heap.size w W) (fun _ _ vi _ => k - (intOf vi).toNat)
  case atStart => exact ⟨0, by omega, rfl, by simp, HE.out, HBE.out⟩
  case round =>
    obtain ⟨i, hi, rfl, rfl, ho, hB⟩ := hrel
    have hs := hB.size
    obtain ⟨A6, c6, e6, hc6, hr6⟩ := ho.reads
    subst e6
    have hbl := bigN_len i n
    have HB := Lib.hid hB
    by_cases hlt : i < k
    · have d5 : decide ((i : Int) < k) = true := decide_eq_true (by omega)
      have hq1 := pow_step n i
      have hsu := bigN_succ i n
      have hql : n / 256 ^ i < 4294967296 := Nat.lt_of_le_of_lt (Nat.div_le_self _ _) hn4
      obtain ⟨q, hq⟩ : ∃ q, n / 256 ^ i = q := ⟨_, rfl⟩
      rw [hq] at hq1 hsu hql ⊢
      have hm1 : (q : Int) % 256 = ((q % 256 : Nat) : Int) := by omega
      obtain ⟨m, hm⟩ : ∃ m, q % 256 = m := ⟨_, rfl⟩
      rw [hm] at hm1 hsu
      have hm256 : m < 256 := by omega
      have hd1 : (q : Int) / 256 = ((q / 256 : Nat) : Int) := by omega
      obtain ⟨d, hd⟩ : ∃ d, q / 256 = d := ⟨_, rfl⟩
      rw [hd] at hd1 hq1
      obtain ⟨ys, hys⟩ : ∃ ys, bigN i n = ys := ⟨_, rfl⟩
      rw [hys] at hsu hr6 hbl hc6 ⊢
      have ho1 := one_u8 wr m
      have hb1 : Below wr.heap.size wr (wr.alloc (.cells #[.int .u8 (m : Nat)] 5)) := (Below.refl _ _).alloc (Nat.le_refl _) _
      have hs1 : wr.heap.size ≤ (wr.alloc (.cells #[.int .u8 (m : Nat)] 5)).heap.size := by simp
      have HO1 := Lib.hid ho1
      have HR1 := Lib.hid (hr6.below hb1)
      have HB1 := Lib.hid hb1
      have HSU := Lib.hid hsu
      have HQ1 := Lib.hid hq1
      have HBL := Lib.hid hbl
      clear ho hB hbl hq hm hd hys hq1 hsu ho1 hb1 hr6
      go_wp2_with (at_builtin; refine append_NN wr.heap.size rfl (.tmp 29) (.tmp 30) 27 5 .u8 1 rfl Try.underlying27 info_u8 (by decide) _ [m] ys A6 c6 rfl rfl HO1.out HR1.out hs1 (by rw [HBL.out]; simp; omega) ?_; intro v5 w5 ho5 hg5 _)
      have hb5 : Below w.heap.size w w5 := HB.out.trans ((HB1.out.grown hg5 hs1 (fun j ej => own_base HO1.out j ej)).mono hs)
      refine ⟨⟨i + 1, by omega, by go_num, ?_, ?_, hb5⟩, by simp [intOf]; omega⟩
      · rw [← HQ1.out]
      · rw [HSU.out]
        exact ho5.lower hs
    · have d5 : decide ((i : Int) < k) = false := decide_eq_false (by omega)
      obtain rfl : i = k := by omega
      have hz : n / 256 ^ i = 0 := Nat.div_eq_of_lt HN.out
      rw [hz]
      have HO := Lib.hid ho
      clear ho hB hr6 hbl hz
      go_wp2_with fail
      go_ret2
      exact ⟨_, rfl, HO.out, HB.out⟩
set_option maxHeartbeats 1000000 in
theorem put_c (A : Option Addr) (c : Nat) (xs : List Nat) (n k : Nat) (w : World) (hr : RN .u8 w A xs) (hx : xs.length ≤ 100000000) (hk1 : 1 ≤ k) (hk4 : k ≤ 4) (hn : n < 256 ^ k) :
    Calls Try.prog 38 #[.slice A xs.length c, .int .i64 (n : Nat), .int .i64 (k : Nat)] w fun e w' => ∃ v, e = .returned v ∧ OwnN .u8 5 w' w.heap.size v (xs ++ bigN k n) ∧ Below w.heap.size w w' := by
  have HF := Lib.hid (Fixed_r n k w hk1 hk4 hn)
  have HR := Lib.hid hr
  clear hr hn
  go_enter Try.func38, Try.ntmps38
  go_wp2_with fail
  refine HF.out.mono ?_
  rintro e w1 ⟨v1, rfl, ho1, hb1⟩
  obtain ⟨A1, c1, e1, hc1, hr1⟩ := ho1.reads
  subst e1
  have hs1 := hb1.size
  have hbl := bigN_len k n
  obtain ⟨ys, hys⟩ : ∃ ys, bigN k n = ys := ⟨_, rfl⟩
  rw [hys] at hr1 hbl hc1 ⊢
  have hE : OwnN .u8 5 (w1.alloc (.cells #[] 5)) w1.heap.size (.slice (some ⟨w1.heap.size, 0, none⟩) 0 0) [] := emptyV 5 1 w1
  have hbE : Below w1.heap.size w1 (w1.alloc (.cells #[] 5)) := (Below.refl _ _).alloc (Nat.le_refl _) _
  have hsE : w1.heap.size ≤ (w1.alloc (.cells #[] 5)).heap.size := by simp
  have HE := Lib.hid hE
  have HRX := Lib.hid ((HR.out.below hb1).below hbE)
  have HRY := Lib.hid hr1
  have HBE := Lib.hid hbE
  have HB1 := Lib.hid hb1
  have HBL := Lib.hid hbl
  have HYS := Lib.hid hys
  clear hE hbE hb1 ho1 hr1 hbl hys
  go_wp2_with (first
    | (at_builtin; refine append_NN w1.heap.size rfl (.tmp 15) (.tmp 16) 27 5 .u8 1 rfl Try.underlying27 info_u8 (by decide) (.slice (some ⟨w1.heap.size, 0, none⟩) 0 0) [] xs A c rfl rfl HE.out HRX.out hsE (by simp; omega) ?_; intro v2 w2 ho2 hg2 _; rw [List.nil_append] at ho2; have hb2 : Below w1.heap.size w1 w2 := HBE.out.grown hg2 hsE (fun j ej => own_base HE.out j ej); have hs2 := hb2.size; have HO2 := Lib.hid ho2; have HR2 := Lib.hid (HRY.out.below hb2); have HB2 := Lib.hid hb2; clear ho2 hg2 hb2)
    | (at_builtin; refine append_NN w1.heap.size rfl (.tmp 17) (.tmp 18) 27 5 .u8 1 rfl Try.underlying27 info_u8 (by decide) v2 xs ys A1 c1 rfl rfl HO2.out HR2.out hs2 (by rw [HBL.out]; omega) ?_; intro v3 w3 ho3 hg3 _))
  have hb3 : Below w.heap.size w w3 := HB1.out.trans ((HB2.out.grown hg3 hs2 (fun j ej => own_base HO2.out j ej)).mono hs1)
  go_ret
  exact ⟨_, rfl, by rw [HYS.out]; exact ho3.lower hs1, hb3⟩
theorem bstr_cells (p : List Nat) (h : ∀ x ∈ p, x < 256) : Lib.strCells (bstr p) = p.map (encN .u8) := by
  unfold Lib.strCells bstr
  simp only [List.map_map]
  apply List.map_congr_left
  intro x hx
  show Value.int .u8 ((UInt8.ofNat x).toNat : Nat) = encN .u8 x
  rw [UInt8.toNat_ofNat', Nat.mod_eq_of_lt (h x hx)]
  rfl
theorem bstr_append (p q : List Nat) : bstr (p ++ q) = bstr p ++ bstr q := by
  apply ByteArray.ext
  simp [bstr]
/-- '[]byte(s)' reads as the string's bytes. -/
theorem bytes_reads {W : World} {g cap : Nat} {p : List Nat} {t : TypeId} {z : Nat × Nat} (hp : ∀ x ∈ p, x < 256) (hm : p.length ≤ 100000000) (hg : W.heap[g]? = some (.cells (bytesRow (bstr p) cap) t z)) : RN .u8 W (some ⟨g, 0, none⟩) p :=
  RN.ofRowAt hg (fun j hj => by
    have h1 : (bytesRow (bstr p) cap)[j]? = (Lib.strCells (bstr p))[j]? := by
      unfold bytesRow Lib.strCells
      have hl : j < ((bstr p).data.map fun b => Value.int .u8 b.toNat).size := by simp [bstr]; exact hj
      rw [Array.getElem?_append_left hl]
      simp
    rw [h1, bstr_cells p hp]
    simp [hj, encN]) hm
set_option maxRecDepth 20000 in
set_option maxHeartbeats 4000000 in
theorem Table_c (b id wide : Nat) (L : List (List Nat)) (w : World) (h : PY w b id wide L) (hch : Chunks L) :
    Calls Try.prog 37 #[.pointer (some ⟨b, 0, none⟩)] w fun e w' => ∃ v, e = .returned v ∧ OwnN .u8 5 w' w.heap.size v (tableN L) ∧ Below w.heap.size w w' := by
  have hb := h.lt
  obtain ⟨AL, cL, h1, h2, h4⟩ := h
  have hl64 := hch.1
  have n0 : (L.length : Int) ≤ 64 := by omega
  have hbE : Below w.heap.size w (w.alloc (.cells #[] 5)) := (Below.refl _ _).alloc (Nat.le_refl _) _
  have hE : OwnN .u8 5 (w.alloc (.cells #[] 5)) w.heap.size (.slice (some ⟨w.heap.size, 0, none⟩) 0 0) [] := emptyV 5 1 w
  have H1 := Lib.hid h1
  have H2 := Lib.hid h2
  have HCH := Lib.hid hch
  have HE := Lib.hid hE
  have HBE := Lib.hid hbE
  clear h1 h2 hch hbE hE
  go_enter Try.func37, Try.ntmps37
  go_wp2_with fail
  go_loopw [3, 4] (fun vo vi W => ∃ i : Nat, i ≤ L.length ∧ vi = .int .i64 i ∧ OwnN .u8 5 W w.heap.size vo (tableN (L.take i)) ∧ Below w.heap.size w W) (fun _ vi _ => L.length - (intOf vi).toNat)
  case atStart => exact ⟨0, by omega, rfl, HE.out, HBE.out⟩
  case round =>
    obtain ⟨i, hi, rfl, ho, hB⟩ := hrel
    obtain ⟨A3, c3, e3, hc3, hr3⟩ := ho.reads
    have hs := hB.size
    subst e3
    have h1r := (hB.block b hb).trans H1.out
    have k2 : wr.cell? ⟨b, 2, none⟩ = some (.slice AL L.length cL) := by rw [cell_of_row _ _ _ _ _ _ h1r]; rfl
    have HO := Lib.hid ho
    have HB := Lib.hid hB
    clear ho hB hr3 h1r
    by_cases hlt : i < L.length
    · have hd : decide ((i : Int) < L.length) = true := decide_eq_true (by omega)
      have i0 : (0 : Int) ≤ (i : Int) := by omega
      have i1 : (i : Int) < (L.length : Int) := by omega
      obtain ⟨g, o, e, a1⟩ := (H2.out.below HB.out).strAt i hlt
      subst e
      obtain ⟨g', o', e', a0⟩ := H2.out.strAt i hlt
      cases e'
      have hgl : g < w.heap.size := World.block_lt_of_cell? _ _ a0
      have hq := HCH.out.2 _ (List.getElem_mem hlt)
      have hst := tableN_take L i hlt
      obtain ⟨q, hqe⟩ : ∃ q, L[i] = q := ⟨_, rfl⟩
      rw [hqe] at a1 a0 hq hst
      obtain ⟨T, hT⟩ : ∃ T, tableN (L.take i) = T := ⟨_, rfl⟩
      rw [hT] at hst HO hc3 ⊢
      have hTl : T.length ≤ 3000 := by rw [← hT, tableN_len, List.length_take]; omega
      have hsz := bstr_size q
      have hcv := run_bytes_of_string (P := Try.prog) wr 9 27 5 (bstr q) Try.underlying9 Try.underlying27 Try.underlying5
      obtain ⟨G, hG⟩ : ∃ G, grownCap wr (bstr q).size 0 5 = G := ⟨_, rfl⟩
      rw [hG] at hcv
      obtain ⟨BR, hBR⟩ : ∃ BR, bytesRow (bstr q) G = BR := ⟨_, rfl⟩
      have hgb : (wr.drew.alloc (.cells BR 5 (BR.size, BR.size + 1))).heap[wr.heap.size]? = some (.cells BR 5 (BR.size, BR.size + 1)) := heap_alloc_new wr.drew _
      have hrb := bytes_reads hq.2.2 (by omega) (hBR ▸ hgb)
      rw [hBR] at hcv hrb
      obtain ⟨S, hS⟩ : ∃ S, bstr q = S := ⟨_, rfl⟩
      rw [hS] at hcv hsz a1 a0
      rw [hsz] at hcv
      have hbB : Below wr.heap.size wr (wr.drew.alloc (.cells BR 5 (BR.size, BR.size + 1))) := (Below.refl _ _).drew.alloc (by simp) _
      have hsum := fun W (hR : RN .u8 W (some ⟨wr.heap.size, 0, none⟩) q) => refSum_c (some ⟨wr.heap.size, 0, none⟩) G q W hR hq.2.2 (by omega)
      have hsl := sumN_len q
      have i3 : (Try.prog.info? 36).map (·.size) = some (shaA q).size := by unfold shaA; rw [tabK_size]; exact info32
      have o3 : (shaA q).all (·.oneCell') = true := tabK_one _ _ _
      have s3 : zeros32.size = (shaA q).size := by unfold shaA zeros32; rw [tabK_size, tabK_size]
      have hRL := shaA_eq q
      obtain ⟨R, hR⟩ : ∃ R, shaA q = R := ⟨_, rfl⟩
      rw [hR] at hsum i3 o3 s3 hRL
      have hz := zero32
      have hok : q.length < 256 ^ 2 := by have := hq.2.1; show q.length < 65536; omega
      have HTB : Hid (∀ W', Below w.heap.size w W' → W'.cell? ⟨b, 2, none⟩ = some (.slice (some ⟨g, o, none⟩) L.length cL) ∧ W'.cell? ⟨g, o + i, none⟩ = some (.string S)) := Lib.hid (fun W' h => ⟨by
        have h1 := (h.block b hb).trans H1.out
        rw [cell_of_row _ _ _ _ _ _ h1]; rfl, (h.cell (p := ⟨g, o + i, none⟩) hgl).trans a0⟩)
      have HRB := Lib.hid hrb
      have HBB := Lib.hid hbB
      have HSUM := Lib.hid hsum
      have HI3 := Lib.hid i3
      have HO3 := Lib.hid o3
      have HS3 := Lib.hid s3
      have HRL := Lib.hid hRL
      have HST := Lib.hid hst
      have HOK := Lib.hid hok
      clear hrb hbB hsum i3 o3 s3 hRL hst hok hq hqe hT hG hBR hgb hS hR a0
      go_wp2_with fail
      refine (HSUM.out _ HRB.out).mono ?_
      rintro e w5 ⟨rfl, hb5⟩
      have hbw5 : Below w.heap.size w w5 := HB.out.trans ((HBB.out.trans (hb5.mono HBB.out.size)).mono hs)
      have ho5 := HO.out.kept (HBB.out.trans (hb5.mono HBB.out.size))
      have hgz : (w5.alloc (.cells zeros32 36)).heap[w5.heap.size]? = some (.cells zeros32 36 (0, 0)) := heap_alloc_new _ _
      have HGZ := Lib.hid hgz
      have HBW5 := Lib.hid hbw5
      have HO5 := Lib.hid ho5
      have hs5 := hbw5.size
      clear hb5 hbw5 ho5 hgz hcv k2 a1
      go_wp2_with (refine wpList_store_row rfl 36 (.tmp 5) (.tmp 24) rfl w5.heap.size rfl R zeros32 rfl 36 HGZ.out HI3.out HS3.out HO3.out ?_)
      have hgs := setRow_heap _ _ _ R _ _ HGZ.out
      have hbs : Below w5.heap.size w5 ((w5.alloc (.cells zeros32 36)).setRow w5.heap.size R) := below_setRow ((Below.refl _ _).alloc (Nat.le_refl _) _) (Nat.le_refl _) _
      have hss : ((w5.alloc (.cells zeros32 36)).setRow w5.heap.size R).heap.size = w5.heap.size + 1 := by simp [World.setRow]
      generalize (w5.alloc (.cells zeros32 36)).setRow w5.heap.size R = ws at hgs hbs hss ⊢
      obtain ⟨gs, hgse⟩ : ∃ gs, w5.heap.size = gs := ⟨_, rfl⟩
      rw [hgse] at hgs hss ⊢
      have hrs : RN .u8 ws (some ⟨gs, 0, none⟩) (sumN q) := RN.ofRowAt hgs (fun j h => by rw [HRL.out]; simp [h, encN]) (by rw [sumN_len]; decide)
      have hb1 : Below w.heap.size w ws := HBW5.out.trans (hbs.mono hs5)
      have hs1 := hb1.size
      have hO1 : OwnN .u8 5 ws w.heap.size (.slice A3 T.length c3) T := HO5.out.kept hbs
      have hfx : T ++ sumN q ++ bigN 2 q.length = T ++ rowN q := by simp [rowN]
      have HRS := Lib.hid hrs
      have HO1 := Lib.hid hO1
      have HB1 := Lib.hid hb1
      have hT1 := HTB.out ws hb1
      clear HGZ HBW5 HO5 HRB HBB HSUM HI3 HO3 HS3 HRL hz hrs hO1 hb1 hbs hgs hgse hss HO HB
      refine wp_region_late [6, 9] (fun w' => w'.cell? ⟨b, 2, none⟩ = some (.slice (some ⟨g, o, none⟩) L.length cL) ∧ w'.cell? ⟨g, o + i, none⟩ = some (.string S)) (by kernel_rfl) hT1 (fun hT => ?_)
      refine WL.take (i := 0) (v := ?_) rfl (by kernel_rfl) (by kernel_rfl) (by kernel_rfl) (by kernel_rfl) (fun _ _ _ h => h) (Or.inl ⟨by rfl, ?_⟩) (by assumption) ?_
      rotate_left 1
      · (intro w' hSw; (try (replace hSw := hSw (by decide); dsimp only at hSw)); go_split_ands; go_simp; try with_reducible rfl)
      simp only [Act.put, List.getElem_toArray, List.getElem_cons_zero, List.getElem_cons_succ, List.setIfInBounds_toArray, List.set_cons_zero, List.set_cons_succ]
      refine WL.take (i := 1) (v := ?_) rfl (by kernel_rfl) (by kernel_rfl) (by kernel_rfl) (by kernel_rfl) (fun _ _ _ h => h) (Or.inl ⟨by rfl, ?_⟩) (by assumption) ?_
      rotate_left 1
      · (intro w' hSw; (try (replace hSw := hSw (by decide); dsimp only at hSw)); go_split_ands; go_simp; try with_reducible rfl)
      simp only [Act.put, List.getElem_toArray, List.getElem_cons_zero, List.getElem_cons_succ, List.setIfInBounds_toArray, List.set_cons_zero, List.set_cons_succ]
      refine WL.take (i := 3) (v := ?_) rfl (by kernel_rfl) (by kernel_rfl) (by kernel_rfl) (by kernel_rfl) (fun _ _ _ h => h) (Or.inl ⟨by rfl, ?_⟩) (by assumption) ?_
      rotate_left 1
      · (intro w' hSw; (try (replace hSw := hSw (by decide); dsimp only at hSw)); go_split_ands; go_simp; try with_reducible rfl)
      simp only [Act.put, List.getElem_toArray, List.getElem_cons_zero, List.getElem_cons_succ, List.setIfInBounds_toArray, List.set_cons_zero, List.set_cons_succ]
      refine WL.take (i := 4) (v := ?_) rfl (by kernel_rfl) (by kernel_rfl) (by kernel_rfl) (by kernel_rfl) (fun _ _ _ h => h) (Or.inl ⟨by rfl, ?_⟩) (by assumption) ?_
      rotate_left 1
      · (intro w' hSw; (try (replace hSw := hSw (by decide); dsimp only at hSw)); go_split_ands; go_simp; try with_reducible rfl)
      simp only [Act.put, List.getElem_toArray, List.getElem_cons_zero, List.getElem_cons_succ, List.setIfInBounds_toArray, List.set_cons_zero, List.set_cons_succ]
      refine WL.take (i := 5) (v := ?_) rfl (by kernel_rfl) (by kernel_rfl) (by kernel_rfl) (by kernel_rfl) (fun _ _ _ h => h) (Or.inl ⟨by rfl, ?_⟩) (by assumption) ?_
      rotate_left 1
      · (intro w' hSw; (try (replace hSw := hSw (by decide); dsimp only at hSw)); go_split_ands; go_simp; try with_reducible rfl)
      simp only [Act.put, List.getElem_toArray, List.getElem_cons_zero, List.getElem_cons_succ, List.setIfInBounds_toArray, List.set_cons_zero, List.set_cons_succ]
      refine WL.take (i := 6) (v := ?_) rfl (by kernel_rfl) (by kernel_rfl) (by kernel_rfl) (by kernel_rfl) (fun _ _ _ h => h) (Or.inl ⟨by rfl, ?_⟩) (by assumption) ?_
      rotate_left 1
      · (intro w' hSw; (try (replace hSw := hSw (by decide); dsimp only at hSw)); go_split_ands; go_simp; try with_reducible rfl)
      simp only [Act.put, List.getElem_toArray, List.getElem_cons_zero, List.getElem_cons_succ, List.setIfInBounds_toArray, List.set_cons_zero, List.set_cons_succ]
      refine WL.take (i := 7) (v := ?_) rfl (by kernel_rfl) (by kernel_rfl) (by kernel_rfl) (by kernel_rfl) (fun _ _ _ h => h) (Or.inl ⟨by rfl, ?_⟩) (by assumption) ?_
      rotate_left 1
      · (intro w' hSw; (try (replace hSw := hSw (by decide); dsimp only at hSw)); go_split_ands; go_simp; try with_reducible rfl)
      simp only [Act.put, List.getElem_toArray, List.getElem_cons_zero, List.getElem_cons_succ, List.setIfInBounds_toArray, List.set_cons_zero, List.set_cons_succ]
      refine WL.take (i := 8) (v := ?_) rfl (by kernel_rfl) (by kernel_rfl) (by kernel_rfl) (by kernel_rfl) (fun _ _ _ h => h) (Or.inl ⟨by rfl, ?_⟩) (by assumption) ?_
      rotate_left 1
      · (intro w' hSw; (try (replace hSw := hSw (by decide); dsimp only at hSw)); go_split_ands; go_simp; try with_reducible rfl)
      simp only [Act.put, List.getElem_toArray, List.getElem_cons_zero, List.getElem_cons_succ, List.setIfInBounds_toArray, List.set_cons_zero, List.set_cons_succ]
      refine WL.take (i := 9) (v := ?_) rfl (by kernel_rfl) (by kernel_rfl) (by kernel_rfl) (by kernel_rfl) (fun _ _ _ h => h) (Or.inl ⟨by rfl, ?_⟩) (by assumption) ?_
      rotate_left 1
      · (intro w' hSw; (try (replace hSw := hSw (by decide); dsimp only at hSw)); go_split_ands; go_simp; try with_reducible rfl)
      simp only [Act.put, List.getElem_toArray, List.getElem_cons_zero, List.getElem_cons_succ, List.setIfInBounds_toArray, List.set_cons_zero, List.set_cons_succ]
      refine WL.take (i := 10) (v := ?_) rfl (by kernel_rfl) (by kernel_rfl) (by kernel_rfl) (by kernel_rfl) (fun _ _ _ h => h) (Or.inl ⟨by rfl, ?_⟩) (by assumption) ?_
      rotate_left 1
      · (intro w' hSw; (try (replace hSw := hSw (by decide); dsimp only at hSw)); go_split_ands; go_simp; try with_reducible rfl)
      simp only [Act.put, List.getElem_toArray, List.getElem_cons_zero, List.getElem_cons_succ, List.setIfInBounds_toArray, List.set_cons_zero, List.set_cons_succ]
      refine WL.one (i := 2) (by kernel_rfl) rfl (fun K hK => ?_)
      rw [if_pos (by rfl)]
      have hb5 : Below ws.heap.size ws ws.drew := (Below.refl _ _).drew
      refine wp_append_NN w.heap.size (.tmp 25) (.tmp 26) 27 5 .u8 1 (by rfl) Try.underlying27 info_u8 (by decide) _ T (sumN q) (some ⟨gs, 0, none⟩) 32 (by rfl) (by rw [hsl]; rfl) (HO1.out.kept hb5) (HRS.out.below hb5) hs1 (by rw [hsl]; omega) ?_
      intro v7 w7 ho7 hg7 _
      have hb7 : Below w.heap.size w w7 := (HB1.out.trans (hb5.mono hs1)).grown hg7 hs1 (fun j ej => own_base HO1.out j ej)
      obtain ⟨A7, c7, e7, hc7, hr7⟩ := ho7.reads
      subst e7
      have hl7 : (T ++ sumN q).length ≤ 100000000 := by rw [List.length_append, hsl]; omega
      have HT7 := Lib.hid (HTB.out w7 hb7)
      go_simp
      refine hK.out _ _ (fun _ => HT7.out) ?_
      clear hK K hb5 ho7 hg7 hT hT1
      refine WL.late (i := 11) (by kernel_rfl) rfl (by kernel_rfl) (fun K hK => ?_)
      go_simp
      go_at_call 38
      have hput := put_c A7 c7 (T ++ sumN q) q.length 2 w7 hr7 hl7 (by decide) (by decide) HOK.out
      rw [List.length_append] at hput
      refine hput.mono ?_
      rintro e w9 ⟨v9, rfl, ho9, hb9⟩
      rw [hfx] at ho9
      have ho9' := ho9.lower hb7.size
      have hb9' := hb7.trans (hb9.mono hb7.size)
      clear hput ho9 hb9 hb7 hr7
      go_simp
      refine hK.out _ _ ?_
      clear hK K
      refine WL.late (i := 12) (by kernel_rfl) rfl (by kernel_rfl) (fun K hK => ?_)
      go_simp
      refine hK.out _ _ ?_
      clear hK K
      refine WL.done (by kernel_rfl) ?_ _
      go_wp2_with fail
      exact ⟨⟨i + 1, by omega, by go_num, by rw [HST.out]; exact ho9', hb9'⟩, by simp [intOf]; omega⟩
    · have hd : decide ((i : Int) < L.length) = false := decide_eq_false (by omega)
      obtain rfl : i = L.length := by omega
      rw [List.take_length] at HO hc3 ⊢
      go_wp2_with fail
      go_ret
      exact ⟨_, rfl, HO.out, HB.out⟩
end Go.Proofs.Ytejmklfhcealnaa.F

/- A container's bytes, by the document. -/
set_option linter.unusedVariables false
set_option linter.unusedSimpArgs false
namespace Go.Proofs.Ytejmklfhcealnaa.F
open Go.RowKit Go.Proofs.YtejmklfhcealnaaW.PrintWords
attribute [local go_sem ↓] Go.wp_at_zero Go.wp_at_succ

theorem flat_take_str (L : List (List Nat)) (i : Nat) (h : i < L.length) : bstr (L.take (i + 1)).flatten = bstr (L.take i).flatten ++ bstr L[i] := by
  rw [List.take_succ_eq_append_getElem h, List.flatten_append, bstr_append]
  simp
section
variable {ops : Array Oper} {rest : List Oper} {o : Oper} {a : Act} {Q : Exit → Act → World → Prop}
theorem append_str {W : World} (base : Nat) (hgd : o.guard = none) (s x : Operand)
    (ho : o.op = .call { callee := .builtin .append, args := #[s, x], argTypes := #[27, 9] })
    (v : Value) (xs p : List Nat) (S : ByteArray) (hs : a.eval s = v) (hx : a.eval x = .string S) (hS : S = bstr p) (hp : ∀ x ∈ p, x < 256) (HO : OwnN .u8 5 W base v xs) (hbase : base ≤ W.heap.size) (hl : xs.length + p.length ≤ 140737488355328)
    (h : ∀ v1 w1, OwnN .u8 5 w1 base v1 (xs ++ p) → W.grownBy w1 v.ownBlock → wpList Try.prog ops Q rest (a.put o.dst v1) w1) : wpList Try.prog ops Q (o :: rest) a W := by
  obtain ⟨i0, hi0, hz0, hz1, hz2⟩ := info_parts info_u8
  subst hS
  refine Lib.wpList_append_own_string W hgd s x 27 9 ho base 5 i0 Try.underlying27 Try.underlying9 hi0 hz0 hz1 hz2 v xs.length (xs.map (encN .u8)) hs HO (bstr p) hx (by rw [bstr_size]; simp only [maxLen]; omega) (by rw [bstr_size]; exact hl) hbase (fun v1 w1 h1 h2 _ => h v1 w1 ?_ h2)
  rw [bstr_size, bstr_cells p hp] at h1
  unfold OwnN
  rw [List.length_append, List.map_append]
  exact h1
end
set_option maxRecDepth 20000 in
set_option maxHeartbeats 8000000 in
theorem Bytes_r (b id wide : Nat) (L : List (List Nat)) (w : World) (h : PY w b id wide L) (hid : id < 4096) (hch : Chunks L) :
    Calls Try.prog 21 #[.pointer (some ⟨b, 0, none⟩)] w fun e w' => ∃ v, e = .returned v ∧ OwnN .u8 5 w' w.heap.size v (bytesN id L) ∧ Below w.heap.size w w' := by
  have hb := h.lt
  have HPY := Lib.hid h
  obtain ⟨AL, cL, h1, h2, h4⟩ := h
  have hl64 := hch.1
  have hfl := hch.flat.1
  have hfb := hch.flat.2
  have n0 : (L.length : Int) ≤ 64 := by omega
  have k2 : w.cell? ⟨b, 2, none⟩ = some (.slice AL L.length cL) := by rw [cell_of_row _ _ _ _ _ _ h1]; rfl
  have H1 := Lib.hid h1
  have H2 := Lib.hid h2
  have HCH := Lib.hid hch
  have HFL := Lib.hid hfl
  have HFB := Lib.hid hfb
  have HLE := Lib.hid (flat_take_le L)
  clear h1 h2 hch hfl hfb h4
  go_enter Try.func21, Try.ntmps21
  go_wp2_with fail
  go_loop [3, 4] (fun vs vi => ∃ i : Nat, i ≤ L.length ∧ vi = .int .i64 i ∧ vs = .string (bstr (L.take i).flatten)) (fun _ vi => L.length - (intOf vi).toNat)
  case atStart => exact ⟨0, by omega, rfl, rfl⟩
  case round =>
    obtain ⟨i, hi, rfl, rfl⟩ := hrel
    by_cases hlt : i < L.length
    · have hd : decide ((i : Int) < L.length) = true := decide_eq_true (by omega)
      have i0 : (0 : Int) ≤ (i : Int) := by omega
      have i1 : (i : Int) < (L.length : Int) := by omega
      obtain ⟨g, o, e, a1⟩ := H2.out.strAt i hlt
      subst e
      have hst := flat_take_str L i hlt
      have hs1 := bstr_size (L.take i).flatten
      have hs2 := bstr_size L[i]
      have hle := HLE.out i
      have hfl := HFL.out
      have hq := (HCH.out.2 _ (List.getElem_mem hlt)).2.1
      obtain ⟨S, hS⟩ : ∃ S, bstr (L.take i).flatten = S := ⟨_, rfl⟩
      obtain ⟨S2, hS2⟩ : ∃ S2, bstr L[i] = S2 := ⟨_, rfl⟩
      rw [hS, hS2] at hst
      rw [hS] at hs1 ⊢
      rw [hS2] at hs2 a1
      have z1 : S.size ≤ 32768 := by omega
      have z2 : S2.size ≤ 512 := by omega
      have HST := Lib.hid hst
      clear hst hs1 hs2 hle hfl hq hS hS2
      go_wp2_with fail
      exact ⟨⟨i + 1, by omega, by go_num, by rw [HST.out]⟩, by simp [intOf]; omega⟩
    · have hd : decide ((i : Int) < L.length) = false := decide_eq_false (by omega)
      obtain rfl : i = L.length := by omega
      rw [List.take_length]
      have hsz := bstr_size L.flatten
      obtain ⟨S, hS⟩ : ∃ S, bstr L.flatten = S := ⟨_, rfl⟩
      rw [hS] at hsz ⊢
      have HS := Lib.hid hS
      have HSZ := Lib.hid hsz
      clear hS hsz
      go_wp2_with fail
      refine (Table_c b id wide L w HPY.out HCH.out).mono ?_
      rintro e w1 ⟨v1, rfl, ho1, hb1⟩
      obtain ⟨A5, c5, e5, hc5, hr5⟩ := ho1.reads
      subst e5
      have hs1 := hb1.size
      have HR5 := Lib.hid hr5
      have HB1 := Lib.hid hb1
      clear ho1 hb1 hr5 k2
      go_wp2_with fail
      have h11 := (HB1.out.block b hb).trans H1.out
      have hbx : b < w1.heap.size := (Array.getElem?_eq_some_iff.1 h11).1
      have HTB : Hid (∀ W', Below w1.heap.size w1 W' → W'.cell? ⟨b, 0, none⟩ = some (.int .i64 (id : Nat)) ∧ W'.cell? ⟨b, 2, none⟩ = some (.slice AL L.length cL)) := Lib.hid (fun W' h => by
        have h1 := (h.block b hbx).trans h11
        exact ⟨by rw [cell_of_row _ _ _ _ _ _ h1]; rfl, by rw [cell_of_row _ _ _ _ _ _ h1]; rfl⟩)
      obtain ⟨fl, hfl⟩ : ∃ fl, L.flatten.length = fl := ⟨_, rfl⟩
      have hsz := HSZ.out
      have hflb := HFL.out
      rw [hfl] at hsz hflb
      have hnd : binN ++ bigN 4 id ++ bigN 2 L.length ++ bigN 4 fl ++ bigN 4 (crcMore 0 (tableN L)) = head18 id L := by unfold head18; rw [hfl]
      obtain ⟨X1, hX1⟩ : ∃ X1, binN ++ bigN 4 id = X1 := ⟨_, rfl⟩
      have hl1 : X1.length = 8 := by rw [← hX1]; simp [binN, bigN_len]
      rw [hX1] at hnd
      obtain ⟨X2, hX2⟩ : ∃ X2, X1 ++ bigN 2 L.length = X2 := ⟨_, rfl⟩
      have hl2 : X2.length = 10 := by rw [← hX2]; simp [hl1, bigN_len]
      rw [hX2] at hnd
      obtain ⟨X3, hX3⟩ : ∃ X3, X2 ++ bigN 4 fl = X3 := ⟨_, rfl⟩
      have hl3 : X3.length = 14 := by rw [← hX3]; simp [hl2, bigN_len]
      rw [hX3] at hnd
      have HND := Lib.hid hnd
      have HX1 := Lib.hid hX1
      have HX2 := Lib.hid hX2
      have HX3 := Lib.hid hX3
      have HL1 := Lib.hid hl1
      have HL2 := Lib.hid hl2
      have HL3 := Lib.hid hl3
      have HFLE := Lib.hid hfl
      have hok1 : id < 256 ^ 4 := by show id < 4294967296; omega
      have hok2 : L.length < 256 ^ 2 := by show L.length < 65536; omega
      have hok3 : fl < 256 ^ 4 := by show fl < 4294967296; omega
      have HOK1 := Lib.hid hok1
      have HOK2 := Lib.hid hok2
      have HOK3 := Lib.hid hok3
      clear h11 hnd hX1 hX2 hX3 hl1 hl2 hl3 hfl hok1 hok2 hok3
      refine wp_region_late [5, 10] (fun w' => w'.cell? ⟨b, 0, none⟩ = some (.int .i64 (id : Nat)) ∧ w'.cell? ⟨b, 2, none⟩ = some (.slice AL L.length cL)) (by kernel_rfl) (HTB.out _ ((Below.refl _ _).drew)) (fun hT => ?_)
      have HB' : Below w1.heap.size w1 w1.drew := (Below.refl _ _).drew
      have HT' := HTB.out _ HB'
      generalize w1.drew = x0 at HB' HT' hT ⊢
      refine WL.take (i := 2) (v := ?_) rfl (by kernel_rfl) (by kernel_rfl) (by kernel_rfl) (by kernel_rfl) (fun _ _ _ h => h) (Or.inl ⟨by rfl, ?_⟩) (by assumption) ?_
      rotate_left 1
      · (intro w' hSw; (try (replace hSw := hSw (by decide); dsimp only at hSw)); go_split_ands; go_simp; try with_reducible rfl)
      simp only [Act.put, List.getElem_toArray, List.getElem_cons_zero, List.getElem_cons_succ, List.setIfInBounds_toArray, List.set_cons_zero, List.set_cons_succ]
      refine WL.take (i := 3) (v := ?_) rfl (by kernel_rfl) (by kernel_rfl) (by kernel_rfl) (by kernel_rfl) (fun _ _ _ h => h) (Or.inl ⟨by rfl, ?_⟩) (by assumption) ?_
      rotate_left 1
      · (intro w' hSw; (try (replace hSw := hSw (by decide); dsimp only at hSw)); go_split_ands; go_simp; try with_reducible rfl)
      simp only [Act.put, List.getElem_toArray, List.getElem_cons_zero, List.getElem_cons_succ, List.setIfInBounds_toArray, List.set_cons_zero, List.set_cons_succ]
      refine WL.take (i := 4) (v := ?_) rfl (by kernel_rfl) (by kernel_rfl) (by kernel_rfl) (by kernel_rfl) (fun _ _ _ h => h) (Or.inl ⟨by rfl, ?_⟩) (by assumption) ?_
      rotate_left 1
      · (intro w' hSw; (try (replace hSw := hSw (by decide); dsimp only at hSw)); go_split_ands; go_simp; try with_reducible rfl)
      simp only [Act.put, List.getElem_toArray, List.getElem_cons_zero, List.getElem_cons_succ, List.setIfInBounds_toArray, List.set_cons_zero, List.set_cons_succ]
      refine WL.take (i := 5) (v := ?_) rfl (by kernel_rfl) (by kernel_rfl) (by kernel_rfl) (by kernel_rfl) (fun _ _ _ h => h) (Or.inl ⟨by rfl, ?_⟩) (by assumption) ?_
      rotate_left 1
      · (intro w' hSw; (try (replace hSw := hSw (by decide); dsimp only at hSw)); go_split_ands; go_simp; try with_reducible rfl)
      simp only [Act.put, List.getElem_toArray, List.getElem_cons_zero, List.getElem_cons_succ, List.setIfInBounds_toArray, List.set_cons_zero, List.set_cons_succ]
      refine WL.take (i := 7) (v := ?_) rfl (by kernel_rfl) (by kernel_rfl) (by kernel_rfl) (by kernel_rfl) (fun _ _ _ h => h) (Or.inl ⟨by rfl, ?_⟩) (by assumption) ?_
      rotate_left 1
      · (intro w' hSw; (try (replace hSw := hSw (by decide); dsimp only at hSw)); go_split_ands; go_simp; try with_reducible rfl)
      simp only [Act.put, List.getElem_toArray, List.getElem_cons_zero, List.getElem_cons_succ, List.setIfInBounds_toArray, List.set_cons_zero, List.set_cons_succ]
      refine WL.take (i := 8) (v := ?_) rfl (by kernel_rfl) (by kernel_rfl) (by kernel_rfl) (by kernel_rfl) (fun _ _ _ h => h) (Or.inl ⟨by rfl, ?_⟩) (by assumption) ?_
      rotate_left 1
      · (intro w' hSw; (try (replace hSw := hSw (by decide); dsimp only at hSw)); go_split_ands; go_simp; try with_reducible rfl)
      simp only [Act.put, List.getElem_toArray, List.getElem_cons_zero, List.getElem_cons_succ, List.setIfInBounds_toArray, List.set_cons_zero, List.set_cons_succ]
      refine WL.take (i := 9) (v := ?_) rfl (by kernel_rfl) (by kernel_rfl) (by kernel_rfl) (by kernel_rfl) (fun _ _ _ h => h) (Or.inl ⟨by rfl, ?_⟩) (by assumption) ?_
      rotate_left 1
      · (intro w' hSw; (try (replace hSw := hSw (by decide); dsimp only at hSw)); go_split_ands; go_simp; try with_reducible rfl)
      simp only [Act.put, List.getElem_toArray, List.getElem_cons_zero, List.getElem_cons_succ, List.setIfInBounds_toArray, List.set_cons_zero, List.set_cons_succ]
      refine WL.take (i := 10) (v := ?_) rfl (by kernel_rfl) (by kernel_rfl) (by kernel_rfl) (by kernel_rfl) (fun _ _ _ h => h) (Or.inl ⟨by rfl, ?_⟩) (by assumption) ?_
      rotate_left 1
      · (intro w' hSw; (try (replace hSw := hSw (by decide); dsimp only at hSw)); go_split_ands; go_simp; try with_reducible rfl)
      simp only [Act.put, List.getElem_toArray, List.getElem_cons_zero, List.getElem_cons_succ, List.setIfInBounds_toArray, List.set_cons_zero, List.set_cons_succ]
      refine WL.take (i := 11) (v := ?_) rfl (by kernel_rfl) (by kernel_rfl) (by kernel_rfl) (by kernel_rfl) (fun _ _ _ h => h) (Or.inl ⟨by rfl, ?_⟩) (by assumption) ?_
      rotate_left 1
      · (intro w' hSw; (try (replace hSw := hSw (by decide); dsimp only at hSw)); go_split_ands; go_simp; try with_reducible rfl)
      simp only [Act.put, List.getElem_toArray, List.getElem_cons_zero, List.getElem_cons_succ, List.setIfInBounds_toArray, List.set_cons_zero, List.set_cons_succ]
      refine WL.take (i := 13) (v := ?_) rfl (by kernel_rfl) (by kernel_rfl) (by kernel_rfl) (by kernel_rfl) (fun _ _ _ h => h) (Or.inl ⟨by rfl, ?_⟩) (by assumption) ?_
      rotate_left 1
      · (intro w' hSw; (try (replace hSw := hSw (by decide); dsimp only at hSw)); go_split_ands; go_simp; try with_reducible rfl)
      simp only [Act.put, List.getElem_toArray, List.getElem_cons_zero, List.getElem_cons_succ, List.setIfInBounds_toArray, List.set_cons_zero, List.set_cons_succ]
      refine WL.take (i := 14) (v := ?_) rfl (by kernel_rfl) (by kernel_rfl) (by kernel_rfl) (by kernel_rfl) (fun _ _ _ h => h) (Or.inl ⟨by rfl, ?_⟩) (by assumption) ?_
      rotate_left 1
      · (intro w' hSw; (try (replace hSw := hSw (by decide); dsimp only at hSw)); go_split_ands; go_simp; try with_reducible rfl)
      simp only [Act.put, List.getElem_toArray, List.getElem_cons_zero, List.getElem_cons_succ, List.setIfInBounds_toArray, List.set_cons_zero, List.set_cons_succ]
      refine WL.one (i := 0) (by kernel_rfl) rfl (fun K hK => ?_)
      go_simp
      have hb' := HB'.alloc (HB'.size) (.cells #[.int .u8 66, .int .u8 73, .int .u8 78, .int .u8 49] 5)
      have hg := heap_alloc_new x0 (.cells #[.int .u8 66, .int .u8 73, .int .u8 78, .int .u8 49] 5)
      have hge : w1.heap.size ≤ x0.heap.size := HB'.size
      refine hK.out _ _ (fun _ => HTB.out _ hb') ?_
      clear hK K HB' HT' hT
      generalize x0.alloc (.cells #[.int .u8 66, .int .u8 73, .int .u8 78, .int .u8 49] 5) = x1 at hb' hg ⊢
      generalize x0.heap.size = g0 at hg hge ⊢
      have HT' := HTB.out _ hb'
      refine WL.one (i := 1) (by kernel_rfl) rfl (fun K hK => ?_)
      rw [if_pos (by rfl)]
      refine wp_convert_mark 27 5 (.tmp 27) (by rfl) #[.int .u8 66, .int .u8 73, .int .u8 78, .int .u8 49] g0 4 4 Try.underlying27 Try.underlying5 hg (by rfl) ?_
      intro x2 hg2 hgr
      have hb2 := hb'.grown hgr hb'.size (fun j ej => by cases ej; exact hge)
      go_simp
      refine hK.out _ _ (fun _ => HTB.out _ hb2) ?_
      clear hK K HT' hg hgr hb' hge
      have HT' := HTB.out _ hb2
      have hrb : RN .u8 x2 (some ⟨g0, 0, none⟩) binN := RN.ofRowAt hg2 (fun j hj => by
        have hj : j < 4 := hj
        rcases j with _ | _ | _ | _ | j
        · rfl
        · rfl
        · rfl
        · rfl
        · omega)
      refine WL.one (i := 6) (by kernel_rfl) rfl (fun K hK => ?_)
      go_simp
      go_at_call 38
      refine (put_c (some ⟨g0, 0, none⟩) 4 binN id 4 x2 hrb (by decide) (by decide) (by decide) HOK1.out).mono ?_
      rintro e x3 ⟨v3, rfl, ho3, hb3⟩
      rw [HX1.out] at ho3
      obtain ⟨B3, d3, e3, hc3, hr3⟩ := ho3.reads
      subst e3
      have hbb3 := hb2.trans (hb3.mono hb2.size)
      have HT3 := HTB.out _ hbb3
      go_simp
      refine hK.out _ _ (fun _ => HT3) ?_
      clear hK K HT' hrb hg2 hb2 ho3 hb3
      refine WL.late (i := 12) (by kernel_rfl) rfl (by kernel_rfl) (fun K hK => ?_)
      go_simp
      go_at_call 38
      refine (put_c B3 d3 X1 L.length 2 x3 hr3 (by rw [HL1.out]; decide) (by decide) (by decide) HOK2.out).mono ?_
      rintro e x4 ⟨v4, rfl, ho4, hb4⟩
      rw [HX2.out] at ho4
      obtain ⟨B4, d4, e4, hc4, hr4⟩ := ho4.reads
      subst e4
      have hbb4 := hbb3.trans (hb4.mono hbb3.size)
      clear HT3 hr3 hbb3 ho4 hb4
      go_simp
      refine hK.out _ _ ?_
      clear hK K
      refine WL.late (i := 15) (by kernel_rfl) rfl (by kernel_rfl) (fun K hK => ?_)
      go_simp
      go_at_call 38
      refine (put_c B4 d4 X2 fl 4 x4 hr4 (by rw [HL2.out]; decide) (by decide) (by decide) HOK3.out).mono ?_
      rintro e x5 ⟨v5, rfl, ho5, hb5⟩
      rw [HX3.out] at ho5
      obtain ⟨B5, d5, e5, hc5', hr5⟩ := ho5.reads
      subst e5
      have hbb5 := hbb4.trans (hb5.mono hbb4.size)
      have HR5' := Lib.hid hr5
      have HBB5 := Lib.hid hbb5
      have hs5 := hbb5.size
      clear hr4 hbb4 ho5 hb5 hr5 hbb5
      go_simp
      refine hK.out _ _ ?_
      clear hK K
      refine WL.late (i := 16) (by kernel_rfl) rfl (by kernel_rfl) (fun K hK => ?_)
      go_simp
      refine hK.out _ _ ?_
      clear hK K
      refine WL.done (by kernel_rfl) ?_ _
      have hTb := tableN_lt L
      have hTl : (tableN L).length ≤ 3000 := by rw [tableN_len]; omega
      have hcl := crcMore_lt 0 (tableN L)
      have hcrc := refCrcMore_c 0 A5 c5 (tableN L) x5 (by decide) (HR5.out.below HBB5.out) hTb
      have hnd := HND.out
      obtain ⟨T, hT⟩ : ∃ T, tableN L = T := ⟨_, rfl⟩
      rw [hT] at hTb hTl hcl hcrc hnd hc5 HR5 ⊢
      obtain ⟨crc, hce⟩ : ∃ crc, crcMore 0 T = crc := ⟨_, rfl⟩
      rw [hce] at hcl hcrc hnd
      have hcr0 : (0 : Int) ≤ (crc : Int) := by omega
      have hcr1 : (crc : Int) < 4294967296 := by omega
      have hcw : IntKind.i64.wrap (crc : Int) = crc := by rw [IntKind.wrap_i64]; omega
      have hok4 : crc < 256 ^ 4 := by show crc < 4294967296; omega
      have HCRC := Lib.hid hcrc
      have HND2 := Lib.hid hnd
      have HTT := Lib.hid hT
      have HTBB := Lib.hid hTb
      have HTL := Lib.hid hTl
      have HOK4 := Lib.hid hok4
      clear hTb hTl hcl hcrc hnd hT hce hok4
      go_wp2_with fail
      refine HCRC.out.mono ?_
      rintro e x6 ⟨rfl, hwe⟩
      subst hwe
      go_wp2_with fail
      refine (put_c B5 d5 X3 crc 4 x6 HR5'.out (by rw [HL3.out]; decide) (by decide) (by decide) HOK4.out).mono ?_
      rintro e x7 ⟨v7, rfl, ho7, hb7⟩
      rw [HND2.out] at ho7
      obtain ⟨B7, d7, e7, hc7, hr7⟩ := ho7.reads
      subst e7
      have hHl := head18_len id L
      have hHb := head18_lt id L
      have h22 : head18 id L ++ bigN 4 (crcMore 0 (head18 id L)) = head22 id L := rfl
      have hcl2 := crcMore_lt 0 (head18 id L)
      obtain ⟨H, hHe⟩ : ∃ H, head18 id L = H := ⟨_, rfl⟩
      rw [hHe] at ho7 hc7 hr7 hHl hHb h22 hcl2 ⊢
      have hcrc2 := refCrcMore_c 0 B7 d7 H x7 (by decide) hr7 hHb
      obtain ⟨crc2, hce2⟩ : ∃ crc2, crcMore 0 H = crc2 := ⟨_, rfl⟩
      rw [hce2] at h22 hcl2 hcrc2
      have hk0 : (0 : Int) ≤ (crc2 : Int) := by omega
      have hk1 : (crc2 : Int) < 4294967296 := by omega
      have hkw : IntKind.i64.wrap (crc2 : Int) = crc2 := by rw [IntKind.wrap_i64]; omega
      have hok5 : crc2 < 256 ^ 4 := by show crc2 < 4294967296; omega
      have HBB7 := Lib.hid (HBB5.out.trans (hb7.mono hs5))
      have hs7 := HBB7.out.size
      have HR7 := Lib.hid hr7
      have HCRC2 := Lib.hid hcrc2
      have H22 := Lib.hid h22
      have HHL := Lib.hid hHl
      have HOK5 := Lib.hid hok5
      clear ho7 hb7 hr7 hHl hHb h22 hcl2 hHe hcrc2 hce2 hok5 hcr0 hcr1 hcw HBB5 HCRC HR5'
      go_wp2_with fail
      refine HCRC2.out.mono ?_
      rintro e x8 ⟨rfl, hwe⟩
      subst hwe
      go_wp2_with fail
      refine (put_c B7 d7 H crc2 4 x8 HR7.out (by rw [HHL.out]; decide) (by decide) (by decide) HOK5.out).mono ?_
      rintro e x9 ⟨v9, rfl, ho9, hb9⟩
      rw [H22.out] at ho9
      have hbb9 := HBB7.out.trans (hb9.mono hs7)
      have ho9' := ho9.lower hs7
      have h22l := head22_len id L
      have hbod : bodyN id L = head22 id L ++ List.replicate 106 0 ++ L.flatten ++ tableN L := rfl
      obtain ⟨H2, hH2⟩ : ∃ H2, head22 id L = H2 := ⟨_, rfl⟩
      rw [hH2] at ho9' h22l hbod
      rw [HTT.out] at hbod
      have HBB9 := Lib.hid hbb9
      have HO9 := Lib.hid ho9'
      have HL22 := Lib.hid h22l
      have HBOD := Lib.hid hbod
      obtain ⟨B9, d9, e9, _, _⟩ := ho9'.reads
      clear ho9 hb9 hbb9 ho9' h22l hbod hH2 hk0 hk1 hkw HBB7 HR7 HCRC2 HHL H22
      subst e9
      go_wp2_with fail
      go_loopw [6] (fun vo Wr => ∃ j : Nat, j ≤ 106 ∧ OwnN .u8 5 Wr w1.heap.size vo (H2 ++ List.replicate j 0) ∧ Below w1.heap.size w1 Wr) (fun vo _ => 128 - lenV vo)
      case atStart => exact ⟨0, by omega, by simpa using HO9.out, HBB9.out⟩
      case round =>
        obtain ⟨j, hj, ho, hB⟩ := hrel
        obtain ⟨B1, d1, e1, hc1, hr1⟩ := ho.reads
        subst e1
        have hll : (H2 ++ List.replicate j 0).length = 22 + j := by rw [List.length_append, HL22.out]; simp
        have hsr := hB.size
        by_cases hlt : j < 106
        · have hnx : H2 ++ List.replicate (j + 1) 0 = H2 ++ List.replicate j 0 ++ [0] := by rw [List.replicate_succ']; simp
          obtain ⟨ys, hys⟩ : ∃ ys, H2 ++ List.replicate j 0 = ys := ⟨_, rfl⟩
          rw [hys] at ho hll hnx hc1 hr1 ⊢
          have hd1 : decide ((ys.length : Int) < 128) = true := decide_eq_true (by omega)
          have hly : (ys.length + 1) * 1 ≤ 140737488355328 := by omega
          have hyl : ys.length ≤ 127 := by omega
          have HLL := Lib.hid hll
          have HO := Lib.hid ho
          have HNX := Lib.hid hnx
          have HLY := Lib.hid hly
          clear hll ho hnx hly hys hr1
          go_wp2_with (at_builtin; refine append_N (w0 := w1) (W := wr) w1.heap.size rfl (.tmp 56) (.tmp 57) 27 5 .u8 1 rfl Try.underlying27 info_u8 (by decide) (.slice B1 ys.length d1) ys 0 rfl wr.heap.size rfl rfl HO.out hB hsr HLY.out ?_; intro v5 w5 ho5 hb5)
          refine ⟨⟨j + 1, by omega, by rw [HNX.out]; exact ho5, hb5⟩, ?_⟩
          obtain ⟨B6, d6, rfl, _⟩ := ho5.reads
          have := HLL.out
          simp [lenV]
          omega
        · obtain rfl : j = 106 := by omega
          have hd1 : decide (((H2 ++ List.replicate 106 0).length : Int) < 128) = false := decide_eq_false (by omega)
          have hbod := HBOD.out
          obtain ⟨ys, hys⟩ : ∃ ys, H2 ++ List.replicate 106 0 = ys := ⟨_, rfl⟩
          rw [hys] at ho hll hd1 hbod hc1 hr1 ⊢
          have hlf : ys.length + L.flatten.length ≤ 140737488355328 := by have := HFL.out; omega
          have hbase := hsr
          have HLF := Lib.hid hlf
          have HO := Lib.hid ho
          have HB := Lib.hid hB
          have HLL := Lib.hid hll
          have HBOD2 := Lib.hid hbod
          clear hll ho hB hys hlf hr1 hbod HO9 HBB9 hsz
          have hlt2 : (ys ++ L.flatten).length + T.length ≤ 140737488355328 := by rw [List.length_append]; have := HTL.out; have := HLL.out; have := HFL.out; omega
          have hyf : ys ++ L.flatten ++ T = bodyN id L := HBOD2.out.symm
          obtain ⟨zs, hzs⟩ : ∃ zs, ys ++ L.flatten = zs := ⟨_, rfl⟩
          rw [hzs] at hlt2 hyf
          have HZS := Lib.hid hzs
          have HLT2 := Lib.hid hlt2
          have HYF := Lib.hid hyf
          have HRT := Lib.hid (HR5.out.below HB.out)
          clear hzs hlt2 hyf
          go_wp2_with (first
            | (at_builtin; refine append_str w1.heap.size rfl (.tmp 59) (.tmp 60) rfl (.slice B1 ys.length d1) ys L.flatten S rfl rfl HS.out.symm HFB.out HO.out hbase HLF.out ?_; intro v5 w5 ho5 hg5; rw [HZS.out] at ho5; have hb5 : Below wr.heap.size wr w5 ∨ True := .inr trivial; have HO5 := Lib.hid ho5; have HG5 := Lib.hid hg5; have hs5 : w1.heap.size ≤ w5.heap.size := Nat.le_trans hbase hg5.size; have HRT5 := Lib.hid (HR5.out.below (HB.out.grown hg5 hbase (fun k ek => own_base HO.out k ek))); clear ho5 hg5 hb5)
            | (at_builtin; refine append_NN w1.heap.size rfl (.tmp 61) (.tmp 62) 27 5 .u8 1 rfl Try.underlying27 info_u8 (by decide) v5 zs T A5 c5 rfl rfl HO5.out HRT5.out hs5 (by have := HLT2.out; omega) ?_; intro v6 w6 ho6 hg6 _))
          rw [HYF.out] at ho6
          have hb6 : Below w1.heap.size w1 w6 := (HB.out.grown HG5.out hbase (fun k ek => own_base HO.out k ek)).grown hg6 hs5 (fun k ek => own_base HO5.out k ek)
          have hbl := bodyN_len id L
          have hfin : bytesN id L = bodyN id L ++ List.replicate (padZ (bodyN id L).length) 0 := rfl
          have hF := HFL.out
          obtain ⟨BB, hBB⟩ : ∃ BB, bodyN id L = BB := ⟨_, rfl⟩
          rw [hBB] at hbl hfin ho6
          obtain ⟨z, hz⟩ : ∃ z, padZ BB.length = z := ⟨_, rfl⟩
          rw [hz] at hfin
          have hBl : BB.length ≤ 40000 := by omega
          have hz128 : z < 128 := by rw [← hz]; unfold padZ; omega
          have hzm : ∀ j, j ≤ z → ((BB.length + j) % 128 = 0 ↔ j = z) := fun j hj => by
            rw [← hz] at hj ⊢
            unfold padZ at hj ⊢
            omega
          have HO6 := Lib.hid ho6
          have HB6 := Lib.hid hb6
          have HFIN := Lib.hid hfin
          have HZM := Lib.hid hzm
          clear ho6 hg6 hb6 hbl hfin hF hBB hz hzm HO5 HG5 HRT5 hs5 HO HB HLL HBOD2 HZS HLT2 HYF HRT HLF hd1
          obtain ⟨A6, c6, e6, hc6, _⟩ := HO6.out.reads
          subst e6
          go_wp2_with fail
          go_loopw [6] (fun vo Wr => ∃ j : Nat, j ≤ z ∧ OwnN .u8 5 Wr w1.heap.size vo (BB ++ List.replicate j 0) ∧ Below w1.heap.size w1 Wr) (fun vo _ => z + BB.length - lenV vo)
          case atStart => exact ⟨0, by omega, by simpa using HO6.out, HB6.out⟩
          case round =>
            obtain ⟨j, hj, ho, hB⟩ := hrel
            obtain ⟨B8, d8, e8, hc8, hr8⟩ := ho.reads
            subst e8
            have hll : (BB ++ List.replicate j 0).length = BB.length + j := by rw [List.length_append]; simp
            have hsr := hB.size
            by_cases hlt : j < z
            · have hnx : BB ++ List.replicate (j + 1) 0 = BB ++ List.replicate j 0 ++ [0] := by rw [List.replicate_succ']; simp
              have hne : ¬ (BB.length + j) % 128 = 0 := fun h => by have := (HZM.out j (by omega)).1 h; omega
              obtain ⟨ys2, hys⟩ : ∃ ys2, BB ++ List.replicate j 0 = ys2 := ⟨_, rfl⟩
              rw [hys] at ho hll hnx hc8 hr8 ⊢
              have hd1 : ((ys2.length : Int) % 128 != 0) = true := by rw [bne_iff_ne, hll]; intro h; exact hne (by omega)
              have hly : (ys2.length + 1) * 1 ≤ 140737488355328 := by omega
              have hyl : ys2.length ≤ 40128 := by omega
              have HLL := Lib.hid hll
              have HO := Lib.hid ho
              have HNX := Lib.hid hnx
              have HLY := Lib.hid hly
              clear hll ho hnx hly hys hr8 hne
              go_wp2_with (at_builtin; refine append_N (w0 := w1) (W := wr) w1.heap.size rfl (.tmp 68) (.tmp 69) 27 5 .u8 1 rfl Try.underlying27 info_u8 (by decide) (.slice B8 ys2.length d8) ys2 0 rfl wr.heap.size rfl rfl HO.out hB hsr HLY.out ?_; intro v5 w5 ho5 hb5)
              refine ⟨⟨j + 1, by omega, by rw [HNX.out]; exact ho5, hb5⟩, ?_⟩
              obtain ⟨B6, d6, rfl, _⟩ := ho5.reads
              have := HLL.out
              simp [lenV]
              omega
            · obtain rfl : j = z := by omega
              have heq := (HZM.out j (Nat.le_refl _)).2 rfl
              rw [← HFIN.out] at ho hll hc8 hr8 ⊢
              obtain ⟨ys2, hys⟩ : ∃ ys2, bytesN id L = ys2 := ⟨_, rfl⟩
              have HYS := Lib.hid hys
              rw [hys] at ho hll hc8 hr8 ⊢
              have hd1 : ((ys2.length : Int) % 128 != 0) = false := by
                rw [hll]
                simp
                omega
              have hyl : ys2.length ≤ 40128 := by omega
              have HO := Lib.hid ho
              clear ho hll hys hr8 heq
              go_wp2_with fail
              go_ret
              exact ⟨_, rfl, by rw [HYS.out]; exact HO.out.lower hs1, HB1.out.trans (hB.mono hs1)⟩
end Go.Proofs.Ytejmklfhcealnaa.F

/- How much room, by the document; the sums; a chunk. -/
set_option linter.unusedVariables false
set_option linter.unusedSimpArgs false
namespace Go.Proofs.Ytejmklfhcealnaa.F
open Go.RowKit Go.Proofs.YtejmklfhcealnaaW.PrintWords
attribute [local go_sem ↓] Go.wp_at_zero Go.wp_at_succ

/-- A chunk of i bytes. -/
def exN (i : Nat) : List Nat := List.replicate i 120
theorem exN_len (i : Nat) : (exN i).length = i := by simp [exN]
theorem exN_succ (i : Nat) : bstr (exN (i + 1)) = bstr (exN i) ++ ⟨#[120]⟩ := by
  unfold exN
  rw [List.replicate_succ', bstr_append]
  rfl
theorem fit_iff (wide m : Nat) (L : List (List Nat)) (hm : 1 ≤ m) (hL : L.length < 64) (hw : 1 ≤ wide) (h512 : m ≤ 512) : (128 + (L ++ [exN m]).flatten.length + 34 * (L ++ [exN m]).length ≤ 128 * wide) ↔ m ≤ roomN wide L.length L.flatten.length := by
  have e1 : (L ++ [exN m]).flatten.length = L.flatten.length + m := by simp [exN_len]
  have e2 : (L ++ [exN m]).length = L.length + 1 := by simp
  rw [e1, e2]
  unfold roomN
  rw [if_neg (by omega)]
  omega
theorem strs_snoc (L : List (List Nat)) (p : List Nat) : strs (L ++ [p]) = strs L ++ [.string (bstr p)] := by simp [strs]
set_option maxRecDepth 20000 in
set_option maxHeartbeats 4000000 in
theorem Room_r (b id wide : Nat) (L : List (List Nat)) (w : World) (h : PY w b id wide L) (hw1 : 1 ≤ wide) (hw2 : wide ≤ 64) (hL : L.length ≤ 64) (hF : L.flatten.length ≤ 32768) :
    Calls Try.prog 20 #[.pointer (some ⟨b, 0, none⟩)] w fun e w' => e = .returned (.int .i64 (roomN wide L.length L.flatten.length : Nat)) ∧ Below w.heap.size w w' := by
  obtain ⟨AL, cL, h1, h2, h4⟩ := h
  have hb : b < w.heap.size := (Array.getElem?_eq_some_iff.1 h1).1
  have k1 : w.cell? ⟨b, 1, none⟩ = some (.int .i64 (wide : Nat)) := by rw [cell_of_row _ _ _ _ _ _ h1]; rfl
  have k2 : w.cell? ⟨b, 2, none⟩ = some (.slice AL L.length cL) := by rw [cell_of_row _ _ _ _ _ _ h1]; rfl
  have HRL := Lib.hid h2
  have K1 := Lib.hid k1
  have K2 := Lib.hid k2
  clear h1 h2 h4
  by_cases h64 : L.length = 64
  · have d1 : decide ((64 : Int) ≤ (L.length : Int)) = true := decide_eq_true (by omega)
    have hr : roomN wide L.length L.flatten.length = 0 := by unfold roomN; rw [if_pos h64]
    have HRR := Lib.hid hr
    clear hr hF
    go_enter Try.func20, Try.ntmps20
    go_wp2_with fail
    go_ret
    rw [HRR.out]
    exact ⟨rfl, Below.refl _ _⟩
  have d1 : decide ((64 : Int) ≤ (L.length : Int)) = false := decide_eq_false (by omega)
  have d1' : decide (64 ≤ L.length) = false := decide_eq_false (by omega)
  have hfi := fun m h1 h2 => fit_iff wide m L h1 (by omega) hw1 h2
  have hr512 : roomN wide L.length L.flatten.length ≤ 512 := by unfold roomN; split <;> omega
  have hFm : ∀ m, m ≤ 512 → (L ++ [exN m]).flatten.length ≤ 100000 := fun m hm => by
    have e1 : (L ++ [exN m]).flatten.length = L.flatten.length + m := by rw [List.flatten_append, List.length_append]; simp [exN_len]
    rw [e1]; omega
  obtain ⟨R, hR⟩ : ∃ R, roomN wide L.length L.flatten.length = R := ⟨_, rfl⟩
  rw [hR] at hfi hr512 ⊢
  have HFI := Lib.hid hfi
  have HFM := Lib.hid hFm
  clear hfi hR hFm hF
  go_enter Try.func20, Try.ntmps20
  go_wp2_with fail
  clear k1 k2
  go_loopw [3, 4] (fun vn vs W => ∃ i : Nat, i ≤ 512 ∧ i ≤ R ∧ vn = .int .i64 i ∧ vs = .string (bstr (exN i)) ∧ Below w.heap.size w W) (fun vn _ _ => 512 - (intOf vn).toNat)
  case atStart => exact ⟨0, by omega, by omega, rfl, rfl, Below.refl _ _⟩
  case round =>
    obtain ⟨i, hi, hiR, rfl, rfl, hBw⟩ := hrel
    have hsw := hBw.size
    have HBW := Lib.hid hBw
    by_cases hlt : i < 512
    · have d2 : decide ((i : Int) < 512) = true := decide_eq_true (by omega)
      have hsx := exN_succ i
      have hs1 := bstr_size (exN i)
      have hl1 := exN_len i
      rw [hl1] at hs1
      obtain ⟨S, hS⟩ : ∃ S, bstr (exN i) = S := ⟨_, rfl⟩
      rw [hS] at hsx hs1 ⊢
      obtain ⟨S2, hS2⟩ : ∃ S2, S ++ (⟨#[120]⟩ : ByteArray) = S2 := ⟨_, rfl⟩
      rw [hS2] at hsx
      have hfit := HFI.out (i + 1) (by omega) (by omega)
      have hFF := HFM.out (i + 1) (by omega)
      have hLL : (L ++ [exN (i + 1)]).length ≤ 100 := by simp; omega
      have hll : (L ++ [exN (i + 1)]).length = L.length + 1 := by simp
      obtain ⟨x0', hx0⟩ : ∃ x, wr = x := ⟨_, rfl⟩
      have hbw : b < wr.heap.size := by omega
      have HTB : Hid (∀ w', Below wr.heap.size wr w' → w'.cell? ⟨b, 2, none⟩ = some (.slice AL L.length cL) ∧ w'.cell? ⟨b, 1, none⟩ = some (.int .i64 (wide : Nat))) := Lib.hid (fun w' h => ⟨((HBW.out.trans (h.mono hsw)).cell (p := ⟨b, 2, none⟩) hb).trans K2.out, ((HBW.out.trans (h.mono hsw)).cell (p := ⟨b, 1, none⟩) hb).trans K1.out⟩)
      have hRLr := HRL.out.below HBW.out
      have HRLR := Lib.hid hRLr
      have HSX := Lib.hid hsx
      have HFT := Lib.hid hfit
      have HFF := Lib.hid hFF
      have HLL := Lib.hid hLL
      have HL2 := Lib.hid hll
      clear hBw hx0 hsx hS hl1 hfit hFF hLL hll hRLr
      have hS3 := hS2
      have HS3 := Lib.hid hS3
      clear hS3
      go_upto_region 7 with fail
      refine wp_region_late [4, 12] (fun w' => w'.cell? ⟨b, 2, none⟩ = some (.slice AL L.length cL) ∧ w'.cell? ⟨b, 1, none⟩ = some (.int .i64 (wide : Nat))) (by kernel_rfl) (HTB.out _ ((Below.refl _ _).drew)) (fun hT => ?_)
      have HB' : Below wr.heap.size wr wr.drew := (Below.refl _ _).drew
      have HT' := HTB.out _ HB'
      generalize wr.drew = x0 at HB' HT' hT ⊢
      refine WL.take (i := 1) (v := ?_) rfl (by kernel_rfl) (by kernel_rfl) (by kernel_rfl) (by kernel_rfl) (fun _ _ _ h => h) (Or.inl ⟨by rfl, ?_⟩) (by assumption) ?_
      rotate_left 1
      · (intro w' hSw; (try (replace hSw := hSw (by decide); dsimp only at hSw)); go_split_ands; go_simp; try with_reducible rfl)
      simp only [Act.put, List.getElem_toArray, List.getElem_cons_zero, List.getElem_cons_succ, List.setIfInBounds_toArray, List.set_cons_zero, List.set_cons_succ]
      refine WL.take (i := 2) (v := ?_) rfl (by kernel_rfl) (by kernel_rfl) (by kernel_rfl) (by kernel_rfl) (fun _ _ _ h => h) (Or.inl ⟨by rfl, ?_⟩) (by assumption) ?_
      rotate_left 1
      · (intro w' hSw; (try (replace hSw := hSw (by decide); dsimp only at hSw)); go_split_ands; go_simp; try with_reducible rfl)
      simp only [Act.put, List.getElem_toArray, List.getElem_cons_zero, List.getElem_cons_succ, List.setIfInBounds_toArray, List.set_cons_zero, List.set_cons_succ]
      refine WL.take (i := 3) (v := ?_) rfl (by kernel_rfl) (by kernel_rfl) (by kernel_rfl) (by kernel_rfl) (fun _ _ _ h => h) (Or.inl ⟨by rfl, ?_⟩) (by assumption) ?_
      rotate_left 1
      · (intro w' hSw; (try (replace hSw := hSw (by decide); dsimp only at hSw)); go_split_ands; go_simp; try with_reducible rfl)
      simp only [Act.put, List.getElem_toArray, List.getElem_cons_zero, List.getElem_cons_succ, List.setIfInBounds_toArray, List.set_cons_zero, List.set_cons_succ]
      refine WL.take (i := 4) (v := ?_) rfl (by kernel_rfl) (by kernel_rfl) (by kernel_rfl) (by kernel_rfl) (fun _ _ _ h => h) (Or.inl ⟨by rfl, ?_⟩) (by assumption) ?_
      rotate_left 1
      · (intro w' hSw; (try (replace hSw := hSw (by decide); dsimp only at hSw)); go_split_ands; go_simp; try with_reducible rfl)
      simp only [Act.put, List.getElem_toArray, List.getElem_cons_zero, List.getElem_cons_succ, List.setIfInBounds_toArray, List.set_cons_zero, List.set_cons_succ]
      refine WL.take (i := 6) (v := ?_) rfl (by kernel_rfl) (by kernel_rfl) (by kernel_rfl) (by kernel_rfl) (fun _ _ _ h => h) (Or.inl ⟨by rfl, ?_⟩) (by assumption) ?_
      rotate_left 1
      · (intro w' hSw; (try (replace hSw := hSw (by decide); dsimp only at hSw)); go_split_ands; go_simp; try with_reducible rfl)
      simp only [Act.put, List.getElem_toArray, List.getElem_cons_zero, List.getElem_cons_succ, List.setIfInBounds_toArray, List.set_cons_zero, List.set_cons_succ]
      refine WL.take (i := 9) (v := ?_) rfl (by kernel_rfl) (by kernel_rfl) (by kernel_rfl) (by kernel_rfl) (fun _ _ _ h => h) (Or.inl ⟨by rfl, ?_⟩) (by assumption) ?_
      rotate_left 1
      · (intro w' hSw; (try (replace hSw := hSw (by decide); dsimp only at hSw)); go_split_ands; go_simp; try with_reducible rfl)
      simp only [Act.put, List.getElem_toArray, List.getElem_cons_zero, List.getElem_cons_succ, List.setIfInBounds_toArray, List.set_cons_zero, List.set_cons_succ]
      refine WL.take (i := 10) (v := ?_) rfl (by kernel_rfl) (by kernel_rfl) (by kernel_rfl) (by kernel_rfl) (fun _ _ _ h => h) (Or.inl ⟨by rfl, ?_⟩) (by assumption) ?_
      rotate_left 1
      · (intro w' hSw; (try (replace hSw := hSw (by decide); dsimp only at hSw)); go_split_ands; go_simp; try with_reducible rfl)
      simp only [Act.put, List.getElem_toArray, List.getElem_cons_zero, List.getElem_cons_succ, List.setIfInBounds_toArray, List.set_cons_zero, List.set_cons_succ]
      refine WL.take (i := 11) (v := ?_) rfl (by kernel_rfl) (by kernel_rfl) (by kernel_rfl) (by kernel_rfl) (fun _ _ _ h => h) (Or.inl ⟨by rfl, ?_⟩) (by assumption) ?_
      rotate_left 1
      · (intro w' hSw; (try (replace hSw := hSw (by decide); dsimp only at hSw)); go_split_ands; go_simp; try with_reducible rfl)
      simp only [Act.put, List.getElem_toArray, List.getElem_cons_zero, List.getElem_cons_succ, List.setIfInBounds_toArray, List.set_cons_zero, List.set_cons_succ]
      refine WL.take (i := 12) (v := ?_) rfl (by kernel_rfl) (by kernel_rfl) (by kernel_rfl) (by kernel_rfl) (fun _ _ _ h => h) (Or.inl ⟨by rfl, ?_⟩) (by assumption) ?_
      rotate_left 1
      · (intro w' hSw; (try (replace hSw := hSw (by decide); dsimp only at hSw)); go_split_ands; go_simp; try with_reducible rfl)
      simp only [Act.put, List.getElem_toArray, List.getElem_cons_zero, List.getElem_cons_succ, List.setIfInBounds_toArray, List.set_cons_zero, List.set_cons_succ]
      clear hT
      refine WL.two (i := 0) (j := 7) (by kernel_rfl) rfl rfl (fun K hK => ?_) (fun K hK => ?_)
      · go_simp
        have hE := own_weaken (emptyV 9 1 x0) HB'.size
        have hb' := HB'.alloc (HB'.size) (.cells #[] 9)
        have hlt' := heap_alloc_new x0 (.cells #[] 9)
        refine hK.out _ _ (fun _ => HTB.out _ hb') ?_
        clear hK K HB' HT'
        generalize x0.alloc (.cells #[] 9) = x1 at hb' hE hlt' ⊢
        generalize x0.heap.size = g0 at hE hlt' ⊢
        have HB' := hb'
        clear hb'
        have HT' := HTB.out _ HB'
        refine WL.two (i := 5) (j := 7) (by kernel_rfl) rfl rfl (fun K hK => ?_) (fun K hK => ?_)
        · rw [if_pos (by rfl)]
          refine wp_append_RV wr.heap.size (.tmp 15) (.tmp 19) 44 9 (.string ⟨#[]⟩) 1 16 (by rfl) Try.underlying44 info_str (by rfl) (by decide) _ 0 [] AL L.length cL (strs L) (by rfl) (by rfl) hE (HRLR.out.below HB') (by rw [strs_len]; omega) (strs_one L) HB'.size (by omega) (by omega) ?_
          intro v5 x2 hE' hgr
          have hb' := HB'.grown hgr HB'.size (fun j ej => own_base hE j ej)
          rw [Nat.zero_add, List.nil_append] at hE'
          obtain ⟨A5, c5, e5, hc5, _⟩ := RV.ofOwn hE'
          subst e5
          go_simp
          refine hK.out _ _ (fun _ => HTB.out _ hb') ?_
          clear hK K HB' HT' hE hgr hlt'
          have hE := hE'
          clear hE'
          have HB' := hb'
          clear hb'
          have HT' := HTB.out _ HB'
          refine WL.one (i := 7) (by kernel_rfl) rfl (fun K hK => ?_)
          go_simp
          have hb' := HB'.alloc (HB'.size) (.cells #[.string S2] 9)
          have hp := RV.one 9 x2 (.string S2)
          replace hE := pw_own_below hE ((Below.refl x2.heap.size x2).alloc (Nat.le_refl _) (.cells #[.string S2] 9))
          refine hK.out _ _ (fun _ => HTB.out _ hb') ?_
          clear hK K HB' HT'
          generalize x2.alloc (.cells #[.string S2] 9) = x3 at hb' hp hE ⊢
          generalize x2.heap.size = gp at hp ⊢
          have HB' := hb'
          clear hb'
          have HT' := HTB.out _ HB'
          refine WL.one (i := 8) (by kernel_rfl) rfl (fun K hK => ?_)
          rw [if_pos (by rfl)]
          refine wp_append_RV wr.heap.size (.tmp 20) (.tmp 22) 44 9 (.string ⟨#[]⟩) 1 16 (by rfl) Try.underlying44 info_str (by rfl) (by decide) _ L.length (strs L) (some ⟨gp, 0, none⟩) 1 1 [.string S2] (by rfl) (by rfl) hE hp (by simp) (by simp [Value.oneCell']) HB'.size (by omega) (by omega) ?_
          intro v9 y9 hE9 hg9
          have hb9 := HB'.grown hg9 HB'.size (fun j ej => own_base hE j ej)
          have hE9' : y9.ownsRow wr.heap.size 9 1 v9 (L ++ [exN (i + 1)]).length (strs (L ++ [exN (i + 1)])) := by rw [HL2.out, strs_snoc, HSX.out]; exact hE9
          obtain ⟨A9, c9, e9, hc9, hr9, _⟩ := RV.ofOwn hE9'
          rw [HL2.out] at e9
          subst e9
          have hfc := Fits_c A9 c9 wide (L ++ [exN (i + 1)]) y9 hr9 (by omega) HLL.out HFF.out
          rw [HL2.out] at hfc
          have hbb9 := HBW.out.trans (hb9.mono hsw)
          have hT9 := HTB.out y9 hb9
          clear HB' HT' hE hp hg9 hE9 hE9' hr9 hb9
          go_simp
          refine hK.out _ _ (fun _ => hT9) ?_
          clear hK K hT9
          refine WL.late (i := 13) (by kernel_rfl) rfl (by kernel_rfl) (fun K hK => ?_)
          go_simp
          go_at_call 36
          refine hfc.mono ?_
          rintro e y10 ⟨rfl, hwe⟩
          subst hwe
          clear hfc
          have hft := HFT.out
          rw [HL2.out] at hft
          obtain ⟨bo, hbo⟩ : ∃ bo, decide (128 + (L ++ [exN (i + 1)]).flatten.length + 34 * (L.length + 1) ≤ 128 * wide) = bo := ⟨_, rfl⟩
          rw [hbo]
          have hft2 : bo = true ↔ i + 1 ≤ R := by rw [← hbo, decide_eq_true_eq]; exact hft
          clear hbo hft
          cases bo with
          | true =>
            have hle : i + 1 ≤ R := hft2.1 rfl
            clear hft2
            go_simp
            refine hK.out _ _ ?_
            clear hK K
            refine WL.late (i := 14) (by kernel_rfl) rfl (by kernel_rfl) (fun K hK => ?_)
            go_simp
            refine hK.out _ _ ?_
            clear hK K
            refine WL.done (by kernel_rfl) ?_ _
            go_wp2_with fail
            exact ⟨⟨i + 1, by omega, hle, by go_num, by rw [HSX.out], hbb9⟩, by simp [intOf]; omega⟩
          | false =>
            have hle : ¬ (i + 1 ≤ R) := fun h => by have := hft2.2 h; cases this
            clear hft2
            obtain rfl : i = R := by omega
            go_simp
            refine hK.out _ _ ?_
            clear hK K
            refine WL.late (i := 14) (by kernel_rfl) rfl (by kernel_rfl) (fun K hK => ?_)
            go_simp
            refine hK.out _ _ ?_
            clear hK K
            refine WL.done (by kernel_rfl) ?_ _
            go_wp2_with fail
            go_ret
            exact ⟨rfl, hbb9⟩
        · go_simp
          have hb' := HB'.alloc (HB'.size) (.cells #[.string S2] 9)
          have hp := RV.one 9 x1 (.string S2)
          replace hE := pw_own_below hE ((Below.refl x1.heap.size x1).alloc (Nat.le_refl _) (.cells #[.string S2] 9))
          have hpne : x1.heap.size ≠ g0 := fun e => by have := (Array.getElem?_eq_some_iff.1 hlt').1; omega
          refine hK.out _ _ (fun _ => HTB.out _ hb') ?_
          clear hK K HB' HT'
          generalize x1.alloc (.cells #[.string S2] 9) = x4 at hb' hp hE ⊢
          generalize x1.heap.size = gp at hp hpne ⊢
          have HB' := hb'
          clear hb'
          have HT' := HTB.out _ HB'
          refine WL.one (i := 5) (by kernel_rfl) rfl (fun K hK => ?_)
          rw [if_pos (by rfl)]
          refine wp_append_RV wr.heap.size (.tmp 15) (.tmp 19) 44 9 (.string ⟨#[]⟩) 1 16 (by rfl) Try.underlying44 info_str (by rfl) (by decide) _ 0 [] AL L.length cL (strs L) (by rfl) (by rfl) hE (HRLR.out.below HB') (by rw [strs_len]; omega) (strs_one L) HB'.size (by omega) (by omega) ?_
          intro v5 x5 hE' hgr
          have hb' := HB'.grown hgr HB'.size (fun j ej => own_base hE j ej)
          replace hp := hp.grown hgr hE (fun _ g o e e' => by cases e; injection e' with e'; exact hpne e'.symm)
          rw [Nat.zero_add, List.nil_append] at hE'
          obtain ⟨A5, c5, e5, hc5, _⟩ := RV.ofOwn hE'
          subst e5
          go_simp
          refine hK.out _ _ (fun _ => HTB.out _ hb') ?_
          clear hK K HB' HT' hE hgr hpne
          have hE := hE'
          clear hE'
          have HB' := hb'
          clear hb'
          have HT' := HTB.out _ HB'
          refine WL.one (i := 8) (by kernel_rfl) rfl (fun K hK => ?_)
          rw [if_pos (by rfl)]
          refine wp_append_RV wr.heap.size (.tmp 20) (.tmp 22) 44 9 (.string ⟨#[]⟩) 1 16 (by rfl) Try.underlying44 info_str (by rfl) (by decide) _ L.length (strs L) (some ⟨gp, 0, none⟩) 1 1 [.string S2] (by rfl) (by rfl) hE hp (by simp) (by simp [Value.oneCell']) HB'.size (by omega) (by omega) ?_
          intro v9 y9 hE9 hg9
          have hb9 := HB'.grown hg9 HB'.size (fun j ej => own_base hE j ej)
          have hE9' : y9.ownsRow wr.heap.size 9 1 v9 (L ++ [exN (i + 1)]).length (strs (L ++ [exN (i + 1)])) := by rw [HL2.out, strs_snoc, HSX.out]; exact hE9
          obtain ⟨A9, c9, e9, hc9, hr9, _⟩ := RV.ofOwn hE9'
          rw [HL2.out] at e9
          subst e9
          have hfc := Fits_c A9 c9 wide (L ++ [exN (i + 1)]) y9 hr9 (by omega) HLL.out HFF.out
          rw [HL2.out] at hfc
          have hbb9 := HBW.out.trans (hb9.mono hsw)
          have hT9 := HTB.out y9 hb9
          clear HB' HT' hE hp hg9 hE9 hE9' hr9 hb9
          go_simp
          refine hK.out _ _ (fun _ => hT9) ?_
          clear hK K hT9
          refine WL.late (i := 13) (by kernel_rfl) rfl (by kernel_rfl) (fun K hK => ?_)
          go_simp
          go_at_call 36
          refine hfc.mono ?_
          rintro e y10 ⟨rfl, hwe⟩
          subst hwe
          clear hfc
          have hft := HFT.out
          rw [HL2.out] at hft
          obtain ⟨bo, hbo⟩ : ∃ bo, decide (128 + (L ++ [exN (i + 1)]).flatten.length + 34 * (L.length + 1) ≤ 128 * wide) = bo := ⟨_, rfl⟩
          rw [hbo]
          have hft2 : bo = true ↔ i + 1 ≤ R := by rw [← hbo, decide_eq_true_eq]; exact hft
          clear hbo hft
          cases bo with
          | true =>
            have hle : i + 1 ≤ R := hft2.1 rfl
            clear hft2
            go_simp
            refine hK.out _ _ ?_
            clear hK K
            refine WL.late (i := 14) (by kernel_rfl) rfl (by kernel_rfl) (fun K hK => ?_)
            go_simp
            refine hK.out _ _ ?_
            clear hK K
            refine WL.done (by kernel_rfl) ?_ _
            go_wp2_with fail
            exact ⟨⟨i + 1, by omega, hle, by go_num, by rw [HSX.out], hbb9⟩, by simp [intOf]; omega⟩
          | false =>
            have hle : ¬ (i + 1 ≤ R) := fun h => by have := hft2.2 h; cases this
            clear hft2
            obtain rfl : i = R := by omega
            go_simp
            refine hK.out _ _ ?_
            clear hK K
            refine WL.late (i := 14) (by kernel_rfl) rfl (by kernel_rfl) (fun K hK => ?_)
            go_simp
            refine hK.out _ _ ?_
            clear hK K
            refine WL.done (by kernel_rfl) ?_ _
            go_wp2_with fail
            go_ret
            exact ⟨rfl, hbb9⟩
      · go_simp
        have hb' := HB'.alloc (HB'.size) (.cells #[.string S2] 9)
        have hp := RV.one 9 x0 (.string S2)
        have hgp : x0.heap.size < (x0.alloc (.cells #[.string S2] 9)).heap.size := by simp
        refine hK.out _ _ (fun _ => HTB.out _ hb') ?_
        clear hK K HB' HT'
        generalize x0.alloc (.cells #[.string S2] 9) = x6 at hb' hp hgp ⊢
        generalize x0.heap.size = gp at hp hgp ⊢
        have HB' := hb'
        clear hb'
        have HT' := HTB.out _ HB'
        refine WL.one (i := 0) (by kernel_rfl) rfl (fun K hK => ?_)
        go_simp
        have hE := own_weaken (emptyV 9 1 x6) HB'.size
        have hb' := HB'.alloc (HB'.size) (.cells #[] 9)
        replace hp := hp.below ((Below.refl x6.heap.size x6).alloc (Nat.le_refl _) (.cells #[] 9))
        have hpne : gp ≠ x6.heap.size := by omega
        have hlt' := heap_alloc_new x6 (.cells #[] 9)
        refine hK.out _ _ (fun _ => HTB.out _ hb') ?_
        clear hK K HB' HT'
        clear hgp
        generalize x6.alloc (.cells #[] 9) = x7 at hb' hE hlt' hp ⊢
        generalize x6.heap.size = g0 at hE hlt' hpne ⊢
        have HB' := hb'
        clear hb'
        have HT' := HTB.out _ HB'
        refine WL.one (i := 5) (by kernel_rfl) rfl (fun K hK => ?_)
        rw [if_pos (by rfl)]
        refine wp_append_RV wr.heap.size (.tmp 15) (.tmp 19) 44 9 (.string ⟨#[]⟩) 1 16 (by rfl) Try.underlying44 info_str (by rfl) (by decide) _ 0 [] AL L.length cL (strs L) (by rfl) (by rfl) hE (HRLR.out.below HB') (by rw [strs_len]; omega) (strs_one L) HB'.size (by omega) (by omega) ?_
        intro v5 x8 hE' hgr
        have hb' := HB'.grown hgr HB'.size (fun j ej => own_base hE j ej)
        replace hp := hp.grown hgr hE (fun _ g o e e' => by cases e; injection e' with e'; exact hpne e'.symm)
        rw [Nat.zero_add, List.nil_append] at hE'
        obtain ⟨A5, c5, e5, hc5, _⟩ := RV.ofOwn hE'
        subst e5
        go_simp
        refine hK.out _ _ (fun _ => HTB.out _ hb') ?_
        clear hK K HB' HT' hE hgr hpne
        have hE := hE'
        clear hE'
        have HB' := hb'
        clear hb'
        have HT' := HTB.out _ HB'
        refine WL.one (i := 8) (by kernel_rfl) rfl (fun K hK => ?_)
        rw [if_pos (by rfl)]
        refine wp_append_RV wr.heap.size (.tmp 20) (.tmp 22) 44 9 (.string ⟨#[]⟩) 1 16 (by rfl) Try.underlying44 info_str (by rfl) (by decide) _ L.length (strs L) (some ⟨gp, 0, none⟩) 1 1 [.string S2] (by rfl) (by rfl) hE hp (by simp) (by simp [Value.oneCell']) HB'.size (by omega) (by omega) ?_
        intro v9 y9 hE9 hg9
        have hb9 := HB'.grown hg9 HB'.size (fun j ej => own_base hE j ej)
        have hE9' : y9.ownsRow wr.heap.size 9 1 v9 (L ++ [exN (i + 1)]).length (strs (L ++ [exN (i + 1)])) := by rw [HL2.out, strs_snoc, HSX.out]; exact hE9
        obtain ⟨A9, c9, e9, hc9, hr9, _⟩ := RV.ofOwn hE9'
        rw [HL2.out] at e9
        subst e9
        have hfc := Fits_c A9 c9 wide (L ++ [exN (i + 1)]) y9 hr9 (by omega) HLL.out HFF.out
        rw [HL2.out] at hfc
        have hbb9 := HBW.out.trans (hb9.mono hsw)
        have hT9 := HTB.out y9 hb9
        clear HB' HT' hE hp hg9 hE9 hE9' hr9 hb9
        go_simp
        refine hK.out _ _ (fun _ => hT9) ?_
        clear hK K hT9
        refine WL.late (i := 13) (by kernel_rfl) rfl (by kernel_rfl) (fun K hK => ?_)
        go_simp
        go_at_call 36
        refine hfc.mono ?_
        rintro e y10 ⟨rfl, hwe⟩
        subst hwe
        clear hfc
        have hft := HFT.out
        rw [HL2.out] at hft
        obtain ⟨bo, hbo⟩ : ∃ bo, decide (128 + (L ++ [exN (i + 1)]).flatten.length + 34 * (L.length + 1) ≤ 128 * wide) = bo := ⟨_, rfl⟩
        rw [hbo]
        have hft2 : bo = true ↔ i + 1 ≤ R := by rw [← hbo, decide_eq_true_eq]; exact hft
        clear hbo hft
        cases bo with
        | true =>
          have hle : i + 1 ≤ R := hft2.1 rfl
          clear hft2
          go_simp
          refine hK.out _ _ ?_
          clear hK K
          refine WL.late (i := 14) (by kernel_rfl) rfl (by kernel_rfl) (fun K hK => ?_)
          go_simp
          refine hK.out _ _ ?_
          clear hK K
          refine WL.done (by kernel_rfl) ?_ _
          go_wp2_with fail
          exact ⟨⟨i + 1, by omega, hle, by go_num, by rw [HSX.out], hbb9⟩, by simp [intOf]; omega⟩
        | false =>
          have hle : ¬ (i + 1 ≤ R) := fun h => by have := hft2.2 h; cases this
          clear hft2
          obtain rfl : i = R := by omega
          go_simp
          refine hK.out _ _ ?_
          clear hK K
          refine WL.late (i := 14) (by kernel_rfl) rfl (by kernel_rfl) (fun K hK => ?_)
          go_simp
          refine hK.out _ _ ?_
          clear hK K
          refine WL.done (by kernel_rfl) ?_ _
          go_wp2_with fail
          go_ret
          exact ⟨rfl, hbb9⟩
    · have d2 : decide ((i : Int) < 512) = false := decide_eq_false (by omega)
      obtain rfl : i = R := by omega
      clear hBw
      go_wp2_with fail
      go_ret
      exact ⟨rfl, HBW.out⟩
end Go.Proofs.Ytejmklfhcealnaa.F

/- The sums; a chunk of a packer. -/
set_option linter.unusedVariables false
set_option linter.unusedSimpArgs false
namespace Go.Proofs.Ytejmklfhcealnaa.F
open Go.RowKit Go.Proofs.YtejmklfhcealnaaW.PrintWords
attribute [local go_sem ↓] Go.wp_at_zero Go.wp_at_succ

theorem zeros32_cells : (Value.agg zeros32).cells.size = 32 := tabK_size _ _ _
theorem infoZ3 : (Try.prog.info? 36).map (fun i => (i.zero, i.size, i.bytes)) = some (some (.agg zeros32), 32, 32) := by kernel_rfl
theorem infoZ2 : (Try.prog.info? 36).map (fun i => (i.zero, i.size)) = some (some (.agg zeros32), 32) := by kernel_rfl
theorem wpList_buildSlice1 {P : Program} {ops : Array Oper} {rest : List Oper} {o : Oper} {a : Act} {Q : Exit → Act → World → Prop} {w : World} (hg : o.guard = none) (t e : TypeId) (x : Operand) (ho : o.op = .buildSlice t 1 #[(0, x)]) (C : Array Value) {z : Value} (n : Nat) (hu : P.underlying t = some (.slice e)) (hinf : (P.info? e).map (fun i => (i.zero, i.size)) = some (some z, n)) (hC : C.size = n) (hn : 0 < n) (hn2 : n ≤ 1000)
    (hx : a.eval x = .agg C) (h : wpList P ops Q rest (a.put o.dst (.slice (some ⟨w.heap.size, 0, none⟩) 1 1)) (w.alloc (.cells C e))) : wpList P ops Q (o :: rest) a w :=
  wpList_plain hg fun _ hK => wp_buildSlice1 t e x ho C n hu hinf hC hn hn2 hx (hK _ _ h)
/-- The cells of sums, one behind the other. -/
def sumsF (L : List (List Nat)) : List Value := L.flatMap fun p => (sumN p).map (encN .u8)
theorem sumsF_len (L : List (List Nat)) : (sumsF L).length = L.length * 32 := by
  induction L with
  | nil => rfl
  | cons p r ih =>
    rw [show sumsF (p :: r) = (sumN p).map (encN .u8) ++ sumsF r from rfl, List.length_append, ih, List.length_map, sumN_len, List.length_cons]
    omega
theorem sumsF_take (L : List (List Nat)) (i : Nat) (h : i < L.length) : sumsF (L.take (i + 1)) = sumsF (L.take i) ++ (sumN L[i]).map (encN .u8) := by
  unfold sumsF
  rw [List.take_succ_eq_append_getElem h, List.flatMap_append]
  simp
theorem slCells_rangeSum {W : World} {g : Nat} {t : TypeId} {z : Nat × Nat} {q : List Nat} {a : Nat} (hg : W.heap[g]? = some (.cells (slCells (sumN q, a, q.length)).toArray t z)) : W.rangeAt g 0 ((sumN q).map (encN .u8)) := fun j v hv => by
  rw [cell_of_row _ _ _ _ _ _ hg, Nat.zero_add]
  unfold slCells
  rw [List.getElem?_toArray, List.getElem?_append_left (List.getElem?_eq_some_iff.1 hv).1]
  exact hv
set_option maxRecDepth 20000 in
set_option maxHeartbeats 4000000 in
theorem Sums_c (b id wide : Nat) (L : List (List Nat)) (w : World) (h : PK sumN w b id wide L) (hch : Chunks L) :
    Calls Try.prog 18 #[.pointer (some ⟨b, 0, none⟩)] w fun e w' => ∃ v, e = .returned v ∧ w'.ownsRow w.heap.size 36 32 v L.length (sumsF L) ∧ Below w.heap.size w w' := by
  have hb := h.lt
  obtain ⟨A0, c0, A2, c2, F, hFF, h1, h2, h3, h4, h5⟩ := h
  have k2 : w.cell? ⟨b, 2, none⟩ = some (.slice A0 L.length c0) := by rw [cell_of_row _ _ _ _ _ _ h1]; rfl
  have hl64 := hch.1
  have H2 := Lib.hid h2
  have HCH := Lib.hid hch
  have n0 : (L.length : Int) ≤ 64 := by omega
  clear h1 h2 h3 hFF hch
  go_enter Try.func18, Try.ntmps18
  go_wp2_with fail
  go_loopw [3, 13] (fun vo vi W => ∃ i : Nat, i ≤ L.length ∧ vi = .int .i64 i ∧ W.ownsRow w.heap.size 36 32 vo i (sumsF (L.take i)) ∧ Below w.heap.size w W) (fun _ vi _ => L.length - (intOf vi).toNat)
  case atStart => exact ⟨0, by omega, rfl, own_nilV _ _ _ _, Below.refl _ _⟩
  case round =>
    obtain ⟨i, hi, rfl, ho, hB⟩ := hrel
    obtain ⟨A3, c3, e3, hc3, hr3, _⟩ := RV.ofOwn ho
    have hs := hB.size
    subst e3
    have HO := Lib.hid ho
    have HB := Lib.hid hB
    clear ho hB hr3 k2
    by_cases hlt : i < L.length
    · have hd : decide ((i : Int) < L.length) = true := decide_eq_true (by omega)
      have i0 : (0 : Int) ≤ (i : Int) := by omega
      have i1 : (i : Int) < (L.length : Int) := by omega
      have hsl := H2.out.below HB.out
      rw [show L.length = (slotsFrom sumN 128 L).length by rw [slotsFrom_len]] at hsl
      obtain ⟨g, o, e, hrange⟩ := hsl.slot (slots_32 128 L) i (by rw [slotsFrom_len]; exact hlt)
      obtain ⟨a, ha, ha2⟩ := slots_get L i hlt
      rw [ha] at hrange
      subst e
      have hst := sumsF_take L i hlt
      obtain ⟨q, hqe⟩ : ∃ q, L[i] = q := ⟨_, rfl⟩
      rw [hqe] at hrange hst
      have hCl : (slCells (sumN q, a, q.length)).length = 34 := slCells_len (sumN_len q)
      have hC1 := slCells_one (sumN q, a, q.length)
      have hgz : (wr.alloc (.cells zeroS 38)).heap[wr.heap.size]? = some (.cells zeroS 38 (0, 0)) := heap_alloc_new _ _
      have hrgs := slCells_rangeSum (setRow_heap _ _ _ (slCells (sumN q, a, q.length)).toArray _ _ hgz)
      obtain ⟨Cl, hCl'⟩ : ∃ Cl, slCells (sumN q, a, q.length) = Cl := ⟨_, rfl⟩
      rw [hCl'] at hrange hCl hC1 hrgs
      have hYl : ((sumN q).map (encN .u8)).length = 32 := by simp [sumN_len]
      have hY1 : ∀ u ∈ ((sumN q).map (encN .u8)), u.oneCell' = true := fun u hu => by
        obtain ⟨x, _, rfl⟩ := List.mem_map.1 hu
        rfl
      obtain ⟨Y, hY⟩ : ∃ Y, (sumN q).map (encN .u8) = Y := ⟨_, rfl⟩
      rw [hY] at hrgs hYl hY1 hst
      have HST := Lib.hid hst
      have HRG := Lib.hid hrange
      have HC1 := Lib.hid (Go.all_oneCell_toArray hC1)
      have hinf : (Try.prog.info? 38).map (·.size) = some Cl.length := by rw [hCl]; exact infoS
      have hinf2 : (Try.prog.info? 38).map (·.size) = some Cl.toArray.size := by rw [List.size_toArray, hCl]; exact infoS
      have hinf3 : (Try.prog.info? 36).map (·.size) = some Y.length := by rw [hYl]; exact info32
      have HI := Lib.hid hinf
      have HI2 := Lib.hid hinf2
      have HI3 := Lib.hid hinf3
      have hzs : zeroS.size = Cl.toArray.size := zeroS_size.trans (by rw [List.size_toArray, hCl])
      have HZS := Lib.hid hzs
      have hz := zeroS_eq
      have HGZ := Lib.hid hgz
      have hbs : Below wr.heap.size wr ((wr.alloc (.cells zeroS 38)).setRow wr.heap.size Cl.toArray) := below_setRow ((Below.refl _ _).alloc (Nat.le_refl _) _) (Nat.le_refl _) _
      have HRGS := Lib.hid hrgs
      have HYL : Hid (Y.toArray.size = 32) := Lib.hid (by rw [List.size_toArray, hYl])
      have hbn := hbs.alloc hbs.size (.cells Y.toArray 36)
      have HBN := Lib.hid hbn
      have HON := Lib.hid (pw_own_below HO.out hbn)
      have hrv : RV 36 (((wr.alloc (.cells zeroS 38)).setRow wr.heap.size Cl.toArray).alloc (.cells Y.toArray 36)) (some ⟨((wr.alloc (.cells zeroS 38)).setRow wr.heap.size Cl.toArray).heap.size, 0, none⟩) 1 Y := ⟨by omega, fun _ => ⟨_, 0, rfl, ⟨_, _, heap_alloc_new _ _⟩, fun j x hx => by
        rw [cell_of_row _ _ _ _ _ _ (heap_alloc_new _ _), Nat.zero_add]
        simpa using hx⟩⟩
      have HRV := Lib.hid hrv
      have HYL2 : Hid (Y.length = 1 * 32) := Lib.hid (by rw [hYl])
      have HY1 := Lib.hid hY1
      have hsn : w.heap.size ≤ (((wr.alloc (.cells zeroS 38)).setRow wr.heap.size Cl.toArray).alloc (.cells Y.toArray 36)).heap.size := Nat.le_trans hs hbn.size
      clear hsl hrange ha hst hqe hCl hC1 hCl' hinf hinf2 hinf3 hzs hgz hrgs hYl hY1 hY hbs hbn hrv
      go_wp2_with (first
        | (refine wpList_load_mid rfl 38 (.tmp 15) rfl g (o + i * 34) rfl Cl _ HRG.out Try.underlying38 (by rfl) HI.out ?_)
        | (refine wpList_store_row rfl 38 (.tmp 5) (.tmp 16) rfl wr.heap.size rfl Cl.toArray zeroS rfl 38 HGZ.out HI2.out HZS.out HC1.out ?_)
        | (refine wpList_load_mid rfl 36 (.tmp 18) rfl wr.heap.size 0 rfl Y _ HRGS.out Try.underlying36 (by rfl) HI3.out ?_)
        | (refine wpList_buildSlice1 rfl 42 36 (.tmp 19) rfl Y.toArray 32 Try.underlying42 infoZ2 HYL.out (by decide) (by decide) rfl ?_)
        | (at_builtin; refine wpList_append_RV w.heap.size rfl (.tmp 17) (.tmp 20) 42 36 (.agg zeros32) 32 32 rfl Try.underlying42 infoZ3 zeros32_cells (by decide) (.slice A3 i c3) i (sumsF (L.take i)) (some ⟨((wr.alloc (.cells zeroS 38)).setRow wr.heap.size Cl.toArray).heap.size, 0, none⟩) 1 1 Y rfl rfl HON.out HRV.out HYL2.out HY1.out hsn (by omega) (by omega) ?_; intro v7 w7 ho7 hg7))
      have hb7 : Below w.heap.size w w7 := HB.out.trans ((HBN.out.mono hs).grown hg7 hsn (fun j ej => own_base HO.out j ej))
      exact ⟨⟨i + 1, by omega, by go_num, by rw [HST.out]; exact ho7, hb7⟩, by simp [intOf]; omega⟩
    · have hd : decide ((i : Int) < L.length) = false := decide_eq_false (by omega)
      obtain rfl : i = L.length := by omega
      rw [List.take_length] at HO
      go_wp2_with fail
      go_ret
      exact ⟨_, rfl, HO.out, HB.out⟩
theorem flat_mid (L : List (List Nat)) (i : Nat) (h : i < L.length) : (L.flatten.drop (L.take i).flatten.length).take L[i].length = L[i] := by
  have e : L.flatten = (L.take i).flatten ++ (L[i] ++ (L.drop (i + 1)).flatten) := by
    conv => lhs; rw [← List.take_append_drop i L, List.flatten_append, List.drop_eq_getElem_cons h, List.flatten_cons]
  rw [e, List.drop_append_of_le_length (by omega), List.drop_of_length_le (by omega), List.nil_append, List.take_append_of_le_length (by omega), List.take_of_length_le (by omega)]
set_option maxHeartbeats 1000000 in
theorem ChunkM_bad (b id wide : Nat) (L : List (List Nat)) (i : Int) (w : World) (h : PK sumN w b id wide L) (hL : L.length ≤ 64) (hi : i < 0 ∨ (L.length : Int) ≤ i) :
    Calls Try.prog 22 #[.pointer (some ⟨b, 0, none⟩), .int .i64 i] w fun e w' => e = .returned (.tuple #[.slice none 0 0, .int .i64 9]) ∧ w' = w := by
  obtain ⟨A0, c0, A2, c2, F, hFF, h1, h2, h3, h4, h5⟩ := h
  have k2 : w.cell? ⟨b, 2, none⟩ = some (.slice A0 L.length c0) := by rw [cell_of_row _ _ _ _ _ _ h1]; rfl
  clear h1 h2 h3 h4 h5 hFF
  by_cases h0 : i < 0
  · have d1 : decide (i < 0) = true := decide_eq_true h0
    go_enter Try.func22, Try.ntmps22
    go_wp2_with fail
    go_ret2
    exact ⟨rfl, rfl⟩
  · have d1 : decide (i < 0) = false := decide_eq_false h0
    have d2 : decide ((L.length : Int) ≤ i) = true := decide_eq_true (by omega)
    go_enter Try.func22, Try.ntmps22
    go_wp2_with fail
    go_ret2
    exact ⟨rfl, rfl⟩
set_option maxRecDepth 20000 in
set_option maxHeartbeats 4000000 in
theorem ChunkM_c (b id wide : Nat) (L : List (List Nat)) (i : Nat) (w : World) (h : PK sumN w b id wide L) (hch : Chunks L) (hlt : i < L.length) :
    Calls Try.prog 22 #[.pointer (some ⟨b, 0, none⟩), .int .i64 (i : Nat)] w fun e w' => ∃ v, e = .returned (.tuple #[v, .int .i64 0]) ∧ OwnN .u8 5 w' w.heap.size v L[i] ∧ Below w.heap.size w w' := by
  have hb := h.lt
  obtain ⟨A0, c0, A2, c2, F, hFF, h1, h2, h3, h4, h5⟩ := h
  have k2 : w.cell? ⟨b, 2, none⟩ = some (.slice A0 L.length c0) := by rw [cell_of_row _ _ _ _ _ _ h1]; rfl
  have k3 : w.cell? ⟨b, 3, none⟩ = some (.slice A2 F.length c2) := by rw [cell_of_row _ _ _ _ _ _ h1]; rfl
  have hl64 := hch.1
  have hfl := hch.flat.1
  have hmid := flat_mid L i hlt
  have hle := flat_take_le L (i + 1)
  have hft := flat_take L i hlt
  have hq := hch.2 _ (List.getElem_mem hlt)
  rw [← hFF] at hmid hle hfl
  have n0 : (L.length : Int) ≤ 64 := by omega
  have d1 : decide ((i : Int) < 0) = false := decide_eq_false (by omega)
  have d2 : decide ((L.length : Int) ≤ i) = false := decide_eq_false (by omega)
  have d2' : decide (L.length ≤ i) = false := decide_eq_false (by omega)
  have i0 : (0 : Int) ≤ (i : Int) := by omega
  have i1 : (i : Int) < (L.length : Int) := by omega
  have hsl := h2
  rw [show L.length = (slotsFrom sumN 128 L).length by rw [slotsFrom_len]] at hsl
  obtain ⟨g, o, e, hrange⟩ := hsl.slot (slots_32 128 L) i (by rw [slotsFrom_len]; exact hlt)
  obtain ⟨a, ha, ha2⟩ := slots_get L i hlt
  rw [ha] at hrange
  subst e
  obtain ⟨q, hqe⟩ : ∃ q, L[i] = q := ⟨_, rfl⟩
  rw [hqe] at hrange hmid hft hq
  obtain ⟨pre, hpre⟩ : ∃ pre, (L.take i).flatten.length = pre := ⟨_, rfl⟩
  rw [hpre] at hmid hft ha2
  have hpq : pre + q.length ≤ F.length := by omega
  have hCl : (slCells (sumN q, a, q.length)).length = 34 := slCells_len (sumN_len q)
  have hC1 := slCells_one (sumN q, a, q.length)
  have hgz : (w.alloc (.cells zeroS 38)).heap[w.heap.size]? = some (.cells zeroS 38 (0, 0)) := heap_alloc_new _ _
  have hgs := setRow_heap _ _ _ (slCells (sumN q, a, q.length)).toArray _ _ hgz
  have k33 : (slCells (sumN q, a, q.length)).toArray[33]? = some (.int .i64 (q.length : Nat)) := slCells_last q a
  have k32 : (slCells (sumN q, a, q.length)).toArray[32]? = some (.int .i64 (a : Nat)) := by
    unfold slCells
    rw [List.getElem?_toArray, List.getElem?_append_right (by simp [sumN_len])]
    simp [sumN_len]
  obtain ⟨Cl, hCl'⟩ : ∃ Cl, slCells (sumN q, a, q.length) = Cl := ⟨_, rfl⟩
  rw [hCl'] at hrange hCl hC1 hgs k32 k33
  have hbs : Below w.heap.size w ((w.alloc (.cells zeroS 38)).setRow w.heap.size Cl.toArray) := below_setRow ((Below.refl _ _).alloc (Nat.le_refl _) _) (Nat.le_refl _) _
  have j32 : ((w.alloc (.cells zeroS 38)).setRow w.heap.size Cl.toArray).cell? ⟨w.heap.size, 32, none⟩ = some (.int .i64 (a : Nat)) := by rw [cell_of_row _ _ _ _ _ _ hgs]; exact k32
  have j33 : ((w.alloc (.cells zeroS 38)).setRow w.heap.size Cl.toArray).cell? ⟨w.heap.size, 33, none⟩ = some (.int .i64 (q.length : Nat)) := by rw [cell_of_row _ _ _ _ _ _ hgs]; exact k33
  have hinf : (Try.prog.info? 38).map (·.size) = some Cl.length := by rw [hCl]; exact infoS
  have hinf2 : (Try.prog.info? 38).map (·.size) = some Cl.toArray.size := by rw [List.size_toArray, hCl]; exact infoS
  have hzs : zeroS.size = Cl.toArray.size := zeroS_size.trans (by rw [List.size_toArray, hCl])
  obtain ⟨u0, hu0, hs0⟩ := info_u8''
  obtain ⟨A', hx, hy⟩ := RN.mid (P := Try.prog) 27 5 .u8 Try.underlying27 hu0 hs0 A2 F.length c2 pre (pre + q.length) (by omega) hpq h5
  rw [show pre + q.length - pre = q.length by omega] at hx hy
  rw [show (((pre + q.length : Nat)) : Int) = (pre : Int) + q.length by omega] at hx
  have hry := hy _ F rfl (h3.rn.below hbs)
  rw [hmid] at hry
  have hz := zeroS_eq
  have hac : (a : Int) - 128 = (pre : Int) := by omega
  have hac2 : (128 : Int) ≤ (a : Int) := by omega
  have hac3 : (a : Int) ≤ 40000 := by omega
  have j3 := (hbs.cell (p := ⟨b, 3, none⟩) hb).trans k3
  have HRG := Lib.hid hrange
  have HI := Lib.hid hinf
  have HI2 := Lib.hid hinf2
  have HZS := Lib.hid hzs
  have HC1 := Lib.hid (Go.all_oneCell_toArray hC1)
  have HGZ := Lib.hid hgz
  have HRY := Lib.hid hry
  have HBS := Lib.hid hbs
  have hp1 : (pre : Int) + q.length ≤ (F.length : Int) := by omega
  have hp2 : (F.length : Int) ≤ 32768 := by omega
  have hp3 : (F.length : Int) ≤ (c2 : Int) := by omega
  have hwp : IntKind.i64.wrap ((pre : Int) + q.length) = (pre : Int) + q.length := by rw [IntKind.wrap_i64]; omega
  have hq512 := hq.2.1
  have hcq : q.length ≤ c2 - pre := by omega
  have HQE := Lib.hid hqe
  have JJ33 := Lib.hid j33
  have JJ3 := Lib.hid j3
  have HX := Lib.hid hx
  clear hsl hrange ha hqe hCl hC1 hCl' hinf hinf2 hzs hgz hgs hbs hmid hle hft hq hpre hfl h1 h2 h3 h4 h5 hFF ha2 k32 k33 hy hu0 hs0 hry hpq hch
  go_enter Try.func22, Try.ntmps22
  go_wp2_with (first
    | (refine wpList_load_mid rfl 38 (.tmp 28) rfl g (o + i * 34) rfl Cl _ HRG.out Try.underlying38 (by rfl) HI.out ?_)
    | (refine wpList_store_row rfl 38 (.tmp 6) (.tmp 29) rfl w.heap.size rfl Cl.toArray zeroS rfl 38 HGZ.out HI2.out HZS.out HC1.out ?_))
  have hgl : ((w.alloc (.cells zeroS 38)).setRow w.heap.size Cl.toArray).heap.size = w.heap.size + 1 := by simp [World.setRow]
  have j3 := JJ3.out
  have j33 := JJ33.out
  have hry := HRY.out
  have hbs := HBS.out
  generalize (w.alloc (.cells zeroS 38)).setRow w.heap.size Cl.toArray = ws at hgl j3 j33 hry hbs ⊢
  have hx := HX.out
  refine wp_region_late [3, 7] (fun w' => w'.cell? ⟨b, 3, none⟩ = some (.slice A2 F.length c2) ∧ w'.cell? ⟨w.heap.size, 33, none⟩ = some (.int .i64 (q.length : Nat))) (by kernel_rfl) ⟨j3, j33⟩ (fun hT => ?_)
  refine WL.take (i := 0) (v := ?_) rfl (by kernel_rfl) (by kernel_rfl) (by kernel_rfl) (by kernel_rfl) (fun _ _ _ h => h) (Or.inl ⟨by rfl, ?_⟩) (by assumption) ?_
  rotate_left 1
  · (intro w' hSw; (try (replace hSw := hSw (by decide); dsimp only at hSw)); go_split_ands; go_simp; try with_reducible rfl)
  simp only [Act.put, List.getElem_toArray, List.getElem_cons_zero, List.getElem_cons_succ, List.setIfInBounds_toArray, List.set_cons_zero, List.set_cons_succ]
  refine WL.take (i := 1) (v := ?_) rfl (by kernel_rfl) (by kernel_rfl) (by kernel_rfl) (by kernel_rfl) (fun _ _ _ h => h) (Or.inl ⟨by rfl, ?_⟩) (by assumption) ?_
  rotate_left 1
  · (intro w' hSw; (try (replace hSw := hSw (by decide); dsimp only at hSw)); go_split_ands; go_simp; try with_reducible rfl)
  simp only [Act.put, List.getElem_toArray, List.getElem_cons_zero, List.getElem_cons_succ, List.setIfInBounds_toArray, List.set_cons_zero, List.set_cons_succ]
  refine WL.take (i := 2) (v := ?_) rfl (by kernel_rfl) (by kernel_rfl) (by kernel_rfl) (by kernel_rfl) (fun _ _ _ h => h) (Or.inl ⟨by rfl, ?_⟩) (by assumption) ?_
  rotate_left 1
  · (intro w' hSw; (try (replace hSw := hSw (by decide); dsimp only at hSw)); go_split_ands; go_simp; try with_reducible rfl)
  simp only [Act.put, List.getElem_toArray, List.getElem_cons_zero, List.getElem_cons_succ, List.setIfInBounds_toArray, List.set_cons_zero, List.set_cons_succ]
  refine WL.take (i := 3) (v := ?_) rfl (by kernel_rfl) (by kernel_rfl) (by kernel_rfl) (by kernel_rfl) (fun _ _ _ h => h) (Or.inl ⟨by rfl, ?_⟩) (by assumption) ?_
  rotate_left 1
  · (intro w' hSw; (try (replace hSw := hSw (by decide); dsimp only at hSw)); go_split_ands; go_simp; try with_reducible rfl)
  simp only [Act.put, List.getElem_toArray, List.getElem_cons_zero, List.getElem_cons_succ, List.setIfInBounds_toArray, List.set_cons_zero, List.set_cons_succ]
  refine WL.take (i := 4) (v := ?_) rfl (by kernel_rfl) (by kernel_rfl) (by kernel_rfl) (by kernel_rfl) (fun _ _ _ h => h) (Or.inl ⟨by rfl, ?_⟩) (by assumption) ?_
  rotate_left 1
  · (intro w' hSw; (try (replace hSw := hSw (by decide); dsimp only at hSw)); go_split_ands; go_simp; try with_reducible rfl)
  simp only [Act.put, List.getElem_toArray, List.getElem_cons_zero, List.getElem_cons_succ, List.setIfInBounds_toArray, List.set_cons_zero, List.set_cons_succ]
  refine WL.take (i := 5) (v := ?_) rfl (by kernel_rfl) (by kernel_rfl) (by kernel_rfl) (by kernel_rfl) (fun _ _ _ h => h) (Or.inl ⟨by rfl, ?_⟩) (by assumption) ?_
  rotate_left 1
  · (intro w' hSw; (try (replace hSw := hSw (by decide); dsimp only at hSw)); go_split_ands; go_simp; try with_reducible rfl)
  simp only [Act.put, List.getElem_toArray, List.getElem_cons_zero, List.getElem_cons_succ, List.setIfInBounds_toArray, List.set_cons_zero, List.set_cons_succ]
  refine WL.take (i := 6) (v := ?_) rfl (by kernel_rfl) (by kernel_rfl) (by kernel_rfl) (by kernel_rfl) (fun _ _ _ h => h) (Or.inl ⟨by rfl, ?_⟩) (by assumption) ?_
  rotate_left 1
  · (intro w' hSw; (try (replace hSw := hSw (by decide); dsimp only at hSw)); go_split_ands; go_simp; try with_reducible rfl)
  simp only [Act.put, List.getElem_toArray, List.getElem_cons_zero, List.getElem_cons_succ, List.setIfInBounds_toArray, List.set_cons_zero, List.set_cons_succ]
  refine WL.take (i := 7) (v := ?_) rfl (by kernel_rfl) (by kernel_rfl) (by kernel_rfl) (by kernel_rfl) (fun _ _ _ h => h) (Or.inl ⟨by rfl, ?_⟩) (by assumption) ?_
  rotate_left 1
  · (intro w' hSw; (try (replace hSw := hSw (by decide); dsimp only at hSw)); go_split_ands; go_simp; try with_reducible rfl)
  simp only [Act.put, List.getElem_toArray, List.getElem_cons_zero, List.getElem_cons_succ, List.setIfInBounds_toArray, List.set_cons_zero, List.set_cons_succ]
  refine WL.take (i := 8) (v := ?_) rfl (by kernel_rfl) (by kernel_rfl) (by kernel_rfl) (by kernel_rfl) (fun _ _ _ h => h) (Or.inl ⟨by rfl, ?_⟩) (by assumption) ?_
  rotate_left 1
  · (intro w' hSw; (try (replace hSw := hSw (by decide); dsimp only at hSw)); go_split_ands; go_simp; try with_reducible rfl)
  simp only [Act.put, List.getElem_toArray, List.getElem_cons_zero, List.getElem_cons_succ, List.setIfInBounds_toArray, List.set_cons_zero, List.set_cons_succ]
  refine WL.take (i := 9) (v := ?_) rfl (by kernel_rfl) (by kernel_rfl) (by kernel_rfl) (by kernel_rfl) (fun _ _ _ h => h) (Or.inl ⟨by rfl, ?_⟩) (by assumption) ?_
  rotate_left 1
  · (intro w' hSw; (try (replace hSw := hSw (by decide); dsimp only at hSw)); go_split_ands; go_simp; try with_reducible rfl)
  simp only [Act.put, List.getElem_toArray, List.getElem_cons_zero, List.getElem_cons_succ, List.setIfInBounds_toArray, List.set_cons_zero, List.set_cons_succ]
  refine WL.late (i := 10) (by kernel_rfl) rfl (by kernel_rfl) (fun K hK => ?_)
  go_simp
  go_at_call 35
  refine (CloneB_c A' (c2 - pre) q _ (hry.below (Below.refl _ _).drew) (by omega) hcq).mono ?_
  rintro e w5 ⟨v5, rfl, ho5, hb5⟩
  replace hb5 : Below ws.heap.size ws w5 := ⟨hb5.os, hb5.tape, hb5.output, hb5.size, hb5.block⟩
  replace ho5 : OwnN .u8 5 w5 ws.heap.size v5 q := ho5
  have hb9 := hbs.trans (hb5.mono (by omega))
  have ho9 := ho5.lower (b := w.heap.size) (by omega)
  rw [← HQE.out] at ho9
  clear hT j3 j33 hry hbs hb5 ho5 hx
  go_simp
  refine hK.out _ _ ?_
  clear hK K
  refine WL.late (i := 11) (by kernel_rfl) rfl (by kernel_rfl) (fun K hK => ?_)
  go_simp
  refine hK.out _ _ ?_
  clear hK K
  refine WL.late (i := 12) (by kernel_rfl) rfl (by kernel_rfl) (fun K hK => ?_)
  go_simp
  refine hK.out _ _ ?_
  clear hK K
  refine WL.done (by kernel_rfl) ?_ _
  go_wp2_with fail
  go_ret2
  exact ⟨_, rfl, ho9, hb9⟩
end Go.Proofs.Ytejmklfhcealnaa.F
