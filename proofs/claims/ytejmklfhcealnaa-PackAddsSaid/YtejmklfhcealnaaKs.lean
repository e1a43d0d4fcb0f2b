/- Numbers and the table, by the document. -/
import Derived.Test.YtejmklfhcealnaaK4
import Derived.Test.YtejmklfhcealnaaDy
import Derived.Laws.IdiomStrings
import Derived.Deep.DrawnRows
set_option linter.unusedVariables false
set_option linter.unusedSimpArgs false
namespace Go.Proofs.Ytejmklfhcealnaa.F
open Go.RowKit Go.Proofs.YtejmklfhcealnaaW.PrintWords
attribute [local go_sem ↓] Go.wp_at_zero Go.wp_at_succ

theorem bigN_succ (i n : Nat) : bigN (i + 1) n = n / 256 ^ i % 256 :: bigN i n := by
  unfold bigN
  rw [List.range_succ_eq_map, List.map_cons, List.map_map]
  congr 1
  apply List.map_congr_left
  intro t _
  show n / 256 ^ (i + 1 - 1 - (t + 1)) % 256 = _
  rw [show i + 1 - 1 - (t + 1) = i - 1 - t by omega]
theorem bigN_zero (n : Nat) : bigN 0 n = [] := rfl
theorem one_u8 (w : World) (m : Nat) : OwnN .u8 5 (w.alloc (.cells #[.int .u8 (m : Nat)] 5)) w.heap.size (.slice (some ⟨w.heap.size, 0, none⟩) 1 1) [m] := by
  have := own_lit_of (enc := encN .u8) w w.heap.size 5 [m] (by simp) (by simp)
  simp only [List.map_cons, List.map_nil, List.length_cons, List.length_nil, encs] at this
  exact this
set_option maxHeartbeats 1000000 in
theorem Fixed_r (n k : Nat) (w : World) (hk1 : 1 ≤ k) (hk4 : k ≤ 4) (hn : n < 256 ^ k) :
    Calls Try.prog 53 #[.int .i64 (n : Nat), .int .i64 (k : Nat)] w fun e w' => ∃ v, e = .returned (.tuple #[v, .int .i64 0]) ∧ OwnN .u8 5 w' w.heap.size v (bigN k n) ∧ Below w.heap.size w w' := by
  have hn4 : n < 4294967296 := by
    have : (256 : Nat) ^ k ≤ 256 ^ 4 := Nat.pow_le_pow_right (by decide) hk4
    have : (256 : Nat) ^ 4 = 4294967296 := by decide
    omega
  have d1 : decide ((k : Int) < 1) = false := decide_eq_false (by omega)
  have d2 : decide ((8 : Int) < k) = false := decide_eq_false (by omega)
  have d3 : decide ((n : Int) < 0) = false := decide_eq_false (by omega)
  have d4 : decide ((9007199254740991 : Int) < (n : Int)) = false := decide_eq_false (by omega)
  have HN := Lib.hid hn
  have hE := emptyV 5 1 w
  have HE : Hid (OwnN .u8 5 (w.alloc (.cells #[] 5)) w.heap.size (.slice (some ⟨w.heap.size, 0, none⟩) 0 0) []) := Lib.hid hE
  have HBE := Lib.hid ((Below.refl w.heap.size w).alloc (Nat.le_refl _) (.cells #[] 5))
  clear hn hE
  go_enter Try.func53, Try.ntmps53
  go_wp2_with fail
  go_loopw [0, 6, 7] (fun vn vo vi W => ∃ i : Nat, i ≤ k ∧ vi = .int .i64 i ∧ vn = .int .i64 (n / 256 ^ i : Nat) ∧ OwnN .u8 5 W w.heap.size vo (bigN i n) ∧ Below w.heap.size w W) (fun _ _ vi _ => k - (intOf vi).toNat)
  case atStart => exact ⟨0, by omega, rfl, by simp, HE.out, HBE.out⟩
  case round =>
    obtain ⟨i, hi, rfl, rfl, ho, hB⟩ := hrel
    have hs := hB.size
    obtain ⟨A6, c6, e6, hc6, hr6⟩ := ho.reads
    subst e6
    have hbl := bigN_len i n
    have HB := Lib.hid hB
    by_cases hlt : i < k
    · have d5 : decide ((i : Int) < k) = true := decide_eq_true (by omega)
      have hq1 := pow_step n i
      have hsu := bigN_succ i n
      have hql : n / 256 ^ i < 4294967296 := Nat.lt_of_le_of_lt (Nat.div_le_self _ _) hn4
      obtain ⟨q, hq⟩ : ∃ q, n / 256 ^ i = q := ⟨_, rfl⟩
      rw [hq] at hq1 hsu hql ⊢
      have hm1 : (q : Int) % 256 = ((q % 256 : Nat) : Int) := by omega
      obtain ⟨m, hm⟩ : ∃ m, q % 256 = m := ⟨_, rfl⟩
      rw [hm] at hm1 hsu
      have hm256 : m < 256 := by omega
      have hd1 : (q : Int) / 256 = ((q / 256 : Nat) : Int) := by omega
      obtain ⟨d, hd⟩ : ∃ d, q / 256 = d := ⟨_, rfl⟩
      rw [hd] at hd1 hq1
      obtain ⟨ys, hys⟩ : ∃ ys, bigN i n = ys := ⟨_, rfl⟩
      rw [hys] at hsu hr6 hbl hc6 ⊢
      have ho1 := one_u8 wr m
      have hb1 : Below wr.heap.size wr (wr.alloc (.cells #[.int .u8 (m : Nat)] 5)) := (Below.refl _ _).alloc (Nat.le_refl _) _
      have hs1 : wr.heap.size ≤ (wr.alloc (.cells #[.int .u8 (m : Nat)] 5)).heap.size := by simp
      have HO1 := Lib.hid ho1
      have HR1 := Lib.hid (hr6.below hb1)
      have HB1 := Lib.hid hb1
      have HSU := Lib.hid hsu
      have HQ1 := Lib.hid hq1
      have HBL := Lib.hid hbl
      clear ho hB hbl hq hm hd hys hq1 hsu ho1 hb1 hr6
      go_wp2_with (at_builtin; refine append_NN wr.heap.size rfl (.tmp 29) (.tmp 30) 27 5 .u8 1 rfl Try.underlying27 info_u8 (by decide) _ [m] ys A6 c6 rfl rfl HO1.out HR1.out hs1 (by rw [HBL.out]; simp; omega) ?_; intro v5 w5 ho5 hg5 _)
      have hb5 : Below w.heap.size w w5 := HB.out.trans ((HB1.out.grown hg5 hs1 (fun j ej => own_base HO1.out j ej)).mono hs)
      refine ⟨⟨i + 1, by omega, by go_num, ?_, ?_, hb5⟩, by simp [intOf]; omega⟩
      · rw [← HQ1.out]
      · rw [HSU.out]
        exact ho5.lower hs
    · have d5 : decide ((i : Int) < k) = false := decide_eq_false (by omega)
      obtain rfl : i = k := by omega
      have hz : n / 256 ^ i = 0 := Nat.div_eq_of_lt HN.out
      rw [hz]
      have HO := Lib.hid ho
      clear ho hB hr6 hbl hz
      go_wp2_with fail
      go_ret2
      exact ⟨_, rfl, HO.out, HB.out⟩
set_option maxHeartbeats 1000000 in
theorem put_c (A : Option Addr) (c : Nat) (xs : List Nat) (n k : Nat) (w : World) (hr : RN .u8 w A xs) (hx : xs.length ≤ 100000000) (hk1 : 1 ≤ k) (hk4 : k ≤ 4) (hn : n < 256 ^ k) :
    Calls Try.prog 38 #[.slice A xs.length c, .int .i64 (n : Nat), .int .i64 (k : Nat)] w fun e w' => ∃ v, e = .returned v ∧ OwnN .u8 5 w' w.heap.size v (xs ++ bigN k n) ∧ Below w.heap.size w w' := by
  have HF := Lib.hid (Fixed_r n k w hk1 hk4 hn)
  have HR := Lib.hid hr
  clear hr hn
  go_enter Try.func38, Try.ntmps38
  go_wp2_with fail
  refine HF.out.mono ?_
  rintro e w1 ⟨v1, rfl, ho1, hb1⟩
  obtain ⟨A1, c1, e1, hc1, hr1⟩ := ho1.reads
  subst e1
  have hs1 := hb1.size
  have hbl := bigN_len k n
  obtain ⟨ys, hys⟩ : ∃ ys, bigN k n = ys := ⟨_, rfl⟩
  rw [hys] at hr1 hbl hc1 ⊢
  have hE : OwnN .u8 5 (w1.alloc (.cells #[] 5)) w1.heap.size (.slice (some ⟨w1.heap.size, 0, none⟩) 0 0) [] := emptyV 5 1 w1
  have hbE : Below w1.heap.size w1 (w1.alloc (.cells #[] 5)) := (Below.refl _ _).alloc (Nat.le_refl _) _
  have hsE : w1.heap.size ≤ (w1.alloc (.cells #[] 5)).heap.size := by simp
  have HE := Lib.hid hE
  have HRX := Lib.hid ((HR.out.below hb1).below hbE)
  have HRY := Lib.hid hr1
  have HBE := Lib.hid hbE
  have HB1 := Lib.hid hb1
  have HBL := Lib.hid hbl
  have HYS := Lib.hid hys
  clear hE hbE hb1 ho1 hr1 hbl hys
  go_wp2_with (first
    | (at_builtin; refine append_NN w1.heap.size rfl (.tmp 15) (.tmp 16) 27 5 .u8 1 rfl Try.underlying27 info_u8 (by decide) (.slice (some ⟨w1.heap.size, 0, none⟩) 0 0) [] xs A c rfl rfl HE.out HRX.out hsE (by simp; omega) ?_; intro v2 w2 ho2 hg2 _; rw [List.nil_append] at ho2; have hb2 : Below w1.heap.size w1 w2 := HBE.out.grown hg2 hsE (fun j ej => own_base HE.out j ej); have hs2 := hb2.size; have HO2 := Lib.hid ho2; have HR2 := Lib.hid (HRY.out.below hb2); have HB2 := Lib.hid hb2; clear ho2 hg2 hb2)
    | (at_builtin; refine append_NN w1.heap.size rfl (.tmp 17) (.tmp 18) 27 5 .u8 1 rfl Try.underlying27 info_u8 (by decide) v2 xs ys A1 c1 rfl rfl HO2.out HR2.out hs2 (by rw [HBL.out]; omega) ?_; intro v3 w3 ho3 hg3 _))
  have hb3 : Below w.heap.size w w3 := HB1.out.trans ((HB2.out.grown hg3 hs2 (fun j ej => own_base HO2.out j ej)).mono hs1)
  go_ret
  exact ⟨_, rfl, by rw [HYS.out]; exact ho3.lower hs1, hb3⟩
theorem bstr_cells (p : List Nat) (h : ∀ x ∈ p, x < 256) : Lib.strCells (bstr p) = p.map (encN .u8) := by
  unfold Lib.strCells bstr
  simp only [List.map_map]
  apply List.map_congr_left
  intro x hx
  show Value.int .u8 ((UInt8.ofNat x).toNat : Nat) = encN .u8 x
  rw [UInt8.toNat_ofNat', Nat.mod_eq_of_lt (h x hx)]
  rfl
theorem bstr_append (p q : List Nat) : bstr (p ++ q) = bstr p ++ bstr q := by
  apply ByteArray.ext
  simp [bstr]
/-- '[]byte(s)' reads as the string's bytes. -/
theorem bytes_reads {W : World} {g cap : Nat} {p : List Nat} {t : TypeId} {z : Nat × Nat} (hp : ∀ x ∈ p, x < 256) (hm : p.length ≤ 100000000) (hg : W.heap[g]? = some (.cells (bytesRow (bstr p) cap) t z)) : RN .u8 W (some ⟨g, 0, none⟩) p :=
  RN.ofRowAt hg (fun j hj => by
    have h1 : (bytesRow (bstr p) cap)[j]? = (Lib.strCells (bstr p))[j]? := by
      unfold bytesRow Lib.strCells
      have hl : j < ((bstr p).data.map fun b => Value.int .u8 b.toNat).size := by simp [bstr]; exact hj
      rw [Array.getElem?_append_left hl]
      simp
    rw [h1, bstr_cells p hp]
    simp [hj, encN]) hm
set_option maxRecDepth 20000 in
set_option maxHeartbeats 4000000 in
theorem Table_c (b id wide : Nat) (L : List (List Nat)) (w : World) (h : PY w b id wide L) (hch : Chunks L) :
    Calls Try.prog 37 #[.pointer (some ⟨b, 0, none⟩)] w fun e w' => ∃ v, e = .returned v ∧ OwnN .u8 5 w' w.heap.size v (tableN L) ∧ Below w.heap.size w w' := by
  have hb := h.lt
  obtain ⟨AL, cL, h1, h2, h4⟩ := h
  have hl64 := hch.1
  have n0 : (L.length : Int) ≤ 64 := by omega
  have hbE : Below w.heap.size w (w.alloc (.cells #[] 5)) := (Below.refl _ _).alloc (Nat.le_refl _) _
  have hE : OwnN .u8 5 (w.alloc (.cells #[] 5)) w.heap.size (.slice (some ⟨w.heap.size, 0, none⟩) 0 0) [] := emptyV 5 1 w
  have H1 := Lib.hid h1
  have H2 := Lib.hid h2
  have HCH := Lib.hid hch
  have HE := Lib.hid hE
  have HBE := Lib.hid hbE
  clear h1 h2 hch hbE hE
  go_enter Try.func37, Try.ntmps37
  go_wp2_with fail
  go_loopw [3, 4] (fun vo vi W => ∃ i : Nat, i ≤ L.length ∧ vi = .int .i64 i ∧ OwnN .u8 5 W w.heap.size vo (tableN (L.take i)) ∧ Below w.heap.size w W) (fun _ vi _ => L.length - (intOf vi).toNat)
  case atStart => exact ⟨0, by omega, rfl, HE.out, HBE.out⟩
  case round =>
    obtain ⟨i, hi, rfl, ho, hB⟩ := hrel
    obtain ⟨A3, c3, e3, hc3, hr3⟩ := ho.reads
    have hs := hB.size
    subst e3
    have h1r := (hB.block b hb).trans H1.out
    have k2 : wr.cell? ⟨b, 2, none⟩ = some (.slice AL L.length cL) := by rw [cell_of_row _ _ _ _ _ _ h1r]; rfl
    have HO := Lib.hid ho
    have HB := Lib.hid hB
    clear ho hB hr3 h1r
    by_cases hlt : i < L.length
    · have hd : decide ((i : Int) < L.length) = true := decide_eq_true (by omega)
      have i0 : (0 : Int) ≤ (i : Int) := by omega
      have i1 : (i : Int) < (L.length : Int) := by omega
      obtain ⟨g, o, e, a1⟩ := (H2.out.below HB.out).strAt i hlt
      subst e
      obtain ⟨g', o', e', a0⟩ := H2.out.strAt i hlt
      cases e'
      have hgl : g < w.heap.size := World.block_lt_of_cell? _ _ a0
      have hq := HCH.out.2 _ (List.getElem_mem hlt)
      have hst := tableN_take L i hlt
      obtain ⟨q, hqe⟩ : ∃ q, L[i] = q := ⟨_, rfl⟩
      rw [hqe] at a1 a0 hq hst
      obtain ⟨T, hT⟩ : ∃ T, tableN (L.take i) = T := ⟨_, rfl⟩
      rw [hT] at hst HO hc3 ⊢
      have hTl : T.length ≤ 3000 := by rw [← hT, tableN_len, List.length_take]; omega
      have hsz := bstr_size q
      have hcv := run_bytes_of_string (P := Try.prog) wr 9 27 5 (bstr q) Try.underlying9 Try.underlying27 Try.underlying5
      obtain ⟨G, hG⟩ : ∃ G, grownCap wr (bstr q).size 0 5 = G := ⟨_, rfl⟩
      rw [hG] at hcv
      obtain ⟨BR, hBR⟩ : ∃ BR, bytesRow (bstr q) G = BR := ⟨_, rfl⟩
      have hgb : (wr.drew.alloc (.cells BR 5 (BR.size, BR.size + 1))).heap[wr.heap.size]? = some (.cells BR 5 (BR.size, BR.size + 1)) := heap_alloc_new wr.drew _
      have hrb := bytes_reads hq.2.2 (by omega) (hBR ▸ hgb)
      rw [hBR] at hcv hrb
      obtain ⟨S, hS⟩ : ∃ S, bstr q = S := ⟨_, rfl⟩
      rw [hS] at hcv hsz a1 a0
      rw [hsz] at hcv
      have hbB : Below wr.heap.size wr (wr.drew.alloc (.cells BR 5 (BR.size, BR.size + 1))) := (Below.refl _ _).drew.alloc (by simp) _
      have hsum := fun W (hR : RN .u8 W (some ⟨wr.heap.size, 0, none⟩) q) => refSum_c (some ⟨wr.heap.size, 0, none⟩) G q W hR hq.2.2 (by omega)
      have hsl := sumN_len q
      have i3 : (Try.prog.info? 36).map (·.size) = some (shaA q).size := by unfold shaA; rw [tabK_size]; exact info32
      have o3 : (shaA q).all (·.oneCell') = true := tabK_one _ _ _
      have s3 : zeros32.size = (shaA q).size := by unfold shaA zeros32; rw [tabK_size, tabK_size]
      have hRL := shaA_eq q
      obtain ⟨R, hR⟩ : ∃ R, shaA q = R := ⟨_, rfl⟩
      rw [hR] at hsum i3 o3 s3 hRL
      have hz := zero32
      have hok : q.length < 256 ^ 2 := by have := hq.2.1; show q.length < 65536; omega
      have HTB : Hid (∀ W', Below w.heap.size w W' → W'.cell? ⟨b, 2, none⟩ = some (.slice (some ⟨g, o, none⟩) L.length cL) ∧ W'.cell? ⟨g, o + i, none⟩ = some (.string S)) := Lib.hid (fun W' h => ⟨by
        have h1 := (h.block b hb).trans H1.out
        rw [cell_of_row _ _ _ _ _ _ h1]; rfl, (h.cell (p := ⟨g, o + i, none⟩) hgl).trans a0⟩)
      have HRB := Lib.hid hrb
      have HBB := Lib.hid hbB
      have HSUM := Lib.hid hsum
      have HI3 := Lib.hid i3
      have HO3 := Lib.hid o3
      have HS3 := Lib.hid s3
      have HRL := Lib.hid hRL
      have HST := Lib.hid hst
      have HOK := Lib.hid hok
      clear hrb hbB hsum i3 o3 s3 hRL hst hok hq hqe hT hG hBR hgb hS hR a0
      go_wp2_with fail
      refine (HSUM.out _ HRB.out).mono ?_
      rintro e w5 ⟨rfl, hb5⟩
      have hbw5 : Below w.heap.size w w5 := HB.out.trans ((HBB.out.trans (hb5.mono HBB.out.size)).mono hs)
      have ho5 := HO.out.kept (HBB.out.trans (hb5.mono HBB.out.size))
      have hgz : (w5.alloc (.cells zeros32 36)).heap[w5.heap.size]? = some (.cells zeros32 36 (0, 0)) := heap_alloc_new _ _
      have HGZ := Lib.hid hgz
      have HBW5 := Lib.hid hbw5
      have HO5 := Lib.hid ho5
      have hs5 := hbw5.size
      clear hb5 hbw5 ho5 hgz hcv k2 a1
      go_wp2_with (refine wpList_store_row rfl 36 (.tmp 5) (.tmp 24) rfl w5.heap.size rfl R zeros32 rfl 36 HGZ.out HI3.out HS3.out HO3.out ?_)
      have hgs := setRow_heap _ _ _ R _ _ HGZ.out
      have hbs : Below w5.heap.size w5 ((w5.alloc (.cells zeros32 36)).setRow w5.heap.size R) := below_setRow ((Below.refl _ _).alloc (Nat.le_refl _) _) (Nat.le_refl _) _
      have hss : ((w5.alloc (.cells zeros32 36)).setRow w5.heap.size R).heap.size = w5.heap.size + 1 := by simp [World.setRow]
      generalize (w5.alloc (.cells zeros32 36)).setRow w5.heap.size R = ws at hgs hbs hss ⊢
      obtain ⟨gs, hgse⟩ : ∃ gs, w5.heap.size = gs := ⟨_, rfl⟩
      rw [hgse] at hgs hss ⊢
      have hrs : RN .u8 ws (some ⟨gs, 0, none⟩) (sumN q) := RN.ofRowAt hgs (fun j h => by rw [HRL.out]; simp [h, encN]) (by rw [sumN_len]; decide)
      have hb1 : Below w.heap.size w ws := HBW5.out.trans (hbs.mono hs5)
      have hs1 := hb1.size
      have hO1 : OwnN .u8 5 ws w.heap.size (.slice A3 T.length c3) T := HO5.out.kept hbs
      have hfx : T ++ sumN q ++ bigN 2 q.length = T ++ rowN q := by simp [rowN]
      have HRS := Lib.hid hrs
      have HO1 := Lib.hid hO1
      have HB1 := Lib.hid hb1
      have hT1 := HTB.out ws hb1
      clear HGZ HBW5 HO5 HRB HBB HSUM HI3 HO3 HS3 HRL hz hrs hO1 hb1 hbs hgs hgse hss HO HB
      refine wp_region_late [6, 9] (fun w' => w'.cell? ⟨b, 2, none⟩ = some (.slice (some ⟨g, o, none⟩) L.length cL) ∧ w'.cell? ⟨g, o + i, none⟩ = some (.string S)) (by kernel_rfl) hT1 (fun hT => ?_)
      refine WL.take (i := 0) (v := ?_) rfl (by kernel_rfl) (by kernel_rfl) (by kernel_rfl) (by kernel_rfl) (fun _ _ _ h => h) (Or.inl ⟨by rfl, ?_⟩) (by assumption) ?_
      rotate_left 1
      · (intro w' hSw; (try (replace hSw := hSw (by decide); dsimp only at hSw)); go_split_ands; go_simp; try with_reducible rfl)
      simp only [Act.put, List.getElem_toArray, List.getElem_cons_zero, List.getElem_cons_succ, List.setIfInBounds_toArray, List.set_cons_zero, List.set_cons_succ]
      refine WL.take (i := 1) (v := ?_) rfl (by kernel_rfl) (by kernel_rfl) (by kernel_rfl) (by kernel_rfl) (fun _ _ _ h => h) (Or.inl ⟨by rfl, ?_⟩) (by assumption) ?_
      rotate_left 1
      · (intro w' hSw; (try (replace hSw := hSw (by decide); dsimp only at hSw)); go_split_ands; go_simp; try with_reducible rfl)
      simp only [Act.put, List.getElem_toArray, List.getElem_cons_zero, List.getElem_cons_succ, List.setIfInBounds_toArray, List.set_cons_zero, List.set_cons_succ]
      refine WL.take (i := 3) (v := ?_) rfl (by kernel_rfl) (by kernel_rfl) (by kernel_rfl) (by kernel_rfl) (fun _ _ _ h => h) (Or.inl ⟨by rfl, ?_⟩) (by assumption) ?_
      rotate_left 1
      · (intro w' hSw; (try (replace hSw := hSw (by decide); dsimp only at hSw)); go_split_ands; go_simp; try with_reducible rfl)
      simp only [Act.put, List.getElem_toArray, List.getElem_cons_zero, List.getElem_cons_succ, List.setIfInBounds_toArray, List.set_cons_zero, List.set_cons_succ]
      refine WL.take (i := 4) (v := ?_) rfl (by kernel_rfl) (by kernel_rfl) (by kernel_rfl) (by kernel_rfl) (fun _ _ _ h => h) (Or.inl ⟨by rfl, ?_⟩) (by assumption) ?_
      rotate_left 1
      · (intro w' hSw; (try (replace hSw := hSw (by decide); dsimp only at hSw)); go_split_ands; go_simp; try with_reducible rfl)
      simp only [Act.put, List.getElem_toArray, List.getElem_cons_zero, List.getElem_cons_succ, List.setIfInBounds_toArray, List.set_cons_zero, List.set_cons_succ]
      refine WL.take (i := 5) (v := ?_) rfl (by kernel_rfl) (by kernel_rfl) (by kernel_rfl) (by kernel_rfl) (fun _ _ _ h => h) (Or.inl ⟨by rfl, ?_⟩) (by assumption) ?_
      rotate_left 1
      · (intro w' hSw; (try (replace hSw := hSw (by decide); dsimp only at hSw)); go_split_ands; go_simp; try with_reducible rfl)
      simp only [Act.put, List.getElem_toArray, List.getElem_cons_zero, List.getElem_cons_succ, List.setIfInBounds_toArray, List.set_cons_zero, List.set_cons_succ]
      refine WL.take (i := 6) (v := ?_) rfl (by kernel_rfl) (by kernel_rfl) (by kernel_rfl) (by kernel_rfl) (fun _ _ _ h => h) (Or.inl ⟨by rfl, ?_⟩) (by assumption) ?_
      rotate_left 1
      · (intro w' hSw; (try (replace hSw := hSw (by decide); dsimp only at hSw)); go_split_ands; go_simp; try with_reducible rfl)
      simp only [Act.put, List.getElem_toArray, List.getElem_cons_zero, List.getElem_cons_succ, List.setIfInBounds_toArray, List.set_cons_zero, List.set_cons_succ]
      refine WL.take (i := 7) (v := ?_) rfl (by kernel_rfl) (by kernel_rfl) (by kernel_rfl) (by kernel_rfl) (fun _ _ _ h => h) (Or.inl ⟨by rfl, ?_⟩) (by assumption) ?_
      rotate_left 1
      · (intro w' hSw; (try (replace hSw := hSw (by decide); dsimp only at hSw)); go_split_ands; go_simp; try with_reducible rfl)
      simp only [Act.put, List.getElem_toArray, List.getElem_cons_zero, List.getElem_cons_succ, List.setIfInBounds_toArray, List.set_cons_zero, List.set_cons_succ]
      refine WL.take (i := 8) (v := ?_) rfl (by kernel_rfl) (by kernel_rfl) (by kernel_rfl) (by kernel_rfl) (fun _ _ _ h => h) (Or.inl ⟨by rfl, ?_⟩) (by assumption) ?_
      rotate_left 1
      · (intro w' hSw; (try (replace hSw := hSw (by decide); dsimp only at hSw)); go_split_ands; go_simp; try with_reducible rfl)
      simp only [Act.put, List.getElem_toArray, List.getElem_cons_zero, List.getElem_cons_succ, List.setIfInBounds_toArray, List.set_cons_zero, List.set_cons_succ]
      refine WL.take (i := 9) (v := ?_) rfl (by kernel_rfl) (by kernel_rfl) (by kernel_rfl) (by kernel_rfl) (fun _ _ _ h => h) (Or.inl ⟨by rfl, ?_⟩) (by assumption) ?_
      rotate_left 1
      · (intro w' hSw; (try (replace hSw := hSw (by decide); dsimp only at hSw)); go_split_ands; go_simp; try with_reducible rfl)
      simp only [Act.put, List.getElem_toArray, List.getElem_cons_zero, List.getElem_cons_succ, List.setIfInBounds_toArray, List.set_cons_zero, List.set_cons_succ]
      refine WL.take (i := 10) (v := ?_) rfl (by kernel_rfl) (by kernel_rfl) (by kernel_rfl) (by kernel_rfl) (fun _ _ _ h => h) (Or.inl ⟨by rfl, ?_⟩) (by assumption) ?_
      rotate_left 1
      · (intro w' hSw; (try (replace hSw := hSw (by decide); dsimp only at hSw)); go_split_ands; go_simp; try with_reducible rfl)
      simp only [Act.put, List.getElem_toArray, List.getElem_cons_zero, List.getElem_cons_succ, List.setIfInBounds_toArray, List.set_cons_zero, List.set_cons_succ]
      refine WL.one (i := 2) (by kernel_rfl) rfl (fun K hK => ?_)
      rw [if_pos (by rfl)]
      have hb5 : Below ws.heap.size ws ws.drew := (Below.refl _ _).drew
      refine wp_append_NN w.heap.size (.tmp 25) (.tmp 26) 27 5 .u8 1 (by rfl) Try.underlying27 info_u8 (by decide) _ T (sumN q) (some ⟨gs, 0, none⟩) 32 (by rfl) (by rw [hsl]; rfl) (HO1.out.kept hb5) (HRS.out.below hb5) hs1 (by rw [hsl]; omega) ?_
      intro v7 w7 ho7 hg7 _
      have hb7 : Below w.heap.size w w7 := (HB1.out.trans (hb5.mono hs1)).grown hg7 hs1 (fun j ej => own_base HO1.out j ej)
      obtain ⟨A7, c7, e7, hc7, hr7⟩ := ho7.reads
      subst e7
      have hl7 : (T ++ sumN q).length ≤ 100000000 := by rw [List.length_append, hsl]; omega
      have HT7 := Lib.hid (HTB.out w7 hb7)
      go_simp
      refine hK.out _ _ (fun _ => HT7.out) ?_
      clear hK K hb5 ho7 hg7 hT hT1
      refine WL.late (i := 11) (by kernel_rfl) rfl (by kernel_rfl) (fun K hK => ?_)
      go_simp
      go_at_call 38
      have hput := put_c A7 c7 (T ++ sumN q) q.length 2 w7 hr7 hl7 (by decide) (by decide) HOK.out
      rw [List.length_append] at hput
      refine hput.mono ?_
      rintro e w9 ⟨v9, rfl, ho9, hb9⟩
      rw [hfx] at ho9
      have ho9' := ho9.lower hb7.size
      have hb9' := hb7.trans (hb9.mono hb7.size)
      clear hput ho9 hb9 hb7 hr7
      go_simp
      refine hK.out _ _ ?_
      clear hK K
      refine WL.late (i := 12) (by kernel_rfl) rfl (by kernel_rfl) (fun K hK => ?_)
      go_simp
      refine hK.out _ _ ?_
      clear hK K
      refine WL.done (by kernel_rfl) ?_ _
      go_wp2_with fail
      exact ⟨⟨i + 1, by omega, by go_num, by rw [HST.out]; exact ho9', hb9'⟩, by simp [intOf]; omega⟩
    · have hd : decide ((i : Int) < L.length) = false := decide_eq_false (by omega)
      obtain rfl : i = L.length := by omega
      rw [List.take_length] at HO hc3 ⊢
      go_wp2_with fail
      go_ret
      exact ⟨_, rfl, HO.out, HB.out⟩
end Go.Proofs.Ytejmklfhcealnaa.F
