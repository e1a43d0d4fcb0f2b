/- A container's bytes, by the document. -/
import Derived.Test.YtejmklfhcealnaaKs
import Derived.Deep.DrawnRows
import Derived.Lib.AppendStr
set_option linter.unusedVariables false
set_option linter.unusedSimpArgs false
namespace Go.Proofs.Ytejmklfhcealnaa.F
open Go.RowKit Go.Proofs.YtejmklfhcealnaaW.PrintWords
attribute [local go_sem ↓] Go.wp_at_zero Go.wp_at_succ

theorem flat_take_str (L : List (List Nat)) (i : Nat) (h : i < L.length) : bstr (L.take (i + 1)).flatten = bstr (L.take i).flatten ++ bstr L[i] := by
  rw [List.take_succ_eq_append_getElem h, List.flatten_append, bstr_append]
  simp
section
variable {ops : Array Oper} {rest : List Oper} {o : Oper} {a : Act} {Q : Exit → Act → World → Prop}
theorem append_str {W : World} (base : Nat) (hgd : o.guard = none) (s x : Operand)
    (ho : o.op = .call { callee := .builtin .append, args := #[s, x], argTypes := #[27, 9] })
    (v : Value) (xs p : List Nat) (S : ByteArray) (hs : a.eval s = v) (hx : a.eval x = .string S) (hS : S = bstr p) (hp : ∀ x ∈ p, x < 256) (HO : OwnN .u8 5 W base v xs) (hbase : base ≤ W.heap.size) (hl : xs.length + p.length ≤ 140737488355328)
    (h : ∀ v1 w1, OwnN .u8 5 w1 base v1 (xs ++ p) → W.grownBy w1 v.ownBlock → wpList Try.prog ops Q rest (a.put o.dst v1) w1) : wpList Try.prog ops Q (o :: rest) a W := by
  obtain ⟨i0, hi0, hz0, hz1, hz2⟩ := info_parts info_u8
  subst hS
  refine Lib.wpList_append_own_string W hgd s x 27 9 ho base 5 i0 Try.underlying27 Try.underlying9 hi0 hz0 hz1 hz2 v xs.length (xs.map (encN .u8)) hs HO (bstr p) hx (by rw [bstr_size]; simp only [maxLen]; omega) (by rw [bstr_size]; exact hl) hbase (fun v1 w1 h1 h2 _ => h v1 w1 ?_ h2)
  rw [bstr_size, bstr_cells p hp] at h1
  unfold OwnN
  rw [List.length_append, List.map_append]
  exact h1
end
set_option maxRecDepth 20000 in
set_option maxHeartbeats 8000000 in
theorem Bytes_r (b id wide : Nat) (L : List (List Nat)) (w : World) (h : PY w b id wide L) (hid : id < 4096) (hch : Chunks L) :
    Calls Try.prog 21 #[.pointer (some ⟨b, 0, none⟩)] w fun e w' => ∃ v, e = .returned v ∧ OwnN .u8 5 w' w.heap.size v (bytesN id L) ∧ Below w.heap.size w w' := by
  have hb := h.lt
  have HPY := Lib.hid h
  obtain ⟨AL, cL, h1, h2, h4⟩ := h
  have hl64 := hch.1
  have hfl := hch.flat.1
  have hfb := hch.flat.2
  have n0 : (L.length : Int) ≤ 64 := by omega
  have k2 : w.cell? ⟨b, 2, none⟩ = some (.slice AL L.length cL) := by rw [cell_of_row _ _ _ _ _ _ h1]; rfl
  have H1 := Lib.hid h1
  have H2 := Lib.hid h2
  have HCH := Lib.hid hch
  have HFL := Lib.hid hfl
  have HFB := Lib.hid hfb
  have HLE := Lib.hid (flat_take_le L)
  clear h1 h2 hch hfl hfb h4
  go_enter Try.func21, Try.ntmps21
  go_wp2_with fail
  go_loop [3, 4] (fun vs vi => ∃ i : Nat, i ≤ L.length ∧ vi = .int .i64 i ∧ vs = .string (bstr (L.take i).flatten)) (fun _ vi => L.length - (intOf vi).toNat)
  case atStart => exact ⟨0, by omega, rfl, rfl⟩
  case round =>
    obtain ⟨i, hi, rfl, rfl⟩ := hrel
    by_cases hlt : i < L.length
    · have hd : decide ((i : Int) < L.length) = true := decide_eq_true (by omega)
      have i0 : (0 : Int) ≤ (i : Int) := by omega
      have i1 : (i : Int) < (L.length : Int) := by omega
      obtain ⟨g, o, e, a1⟩ := H2.out.strAt i hlt
      subst e
      have hst := flat_take_str L i hlt
      have hs1 := bstr_size (L.take i).flatten
      have hs2 := bstr_size L[i]
      have hle := HLE.out i
      have hfl := HFL.out
      have hq := (HCH.out.2 _ (List.getElem_mem hlt)).2.1
      obtain ⟨S, hS⟩ : ∃ S, bstr (L.take i).flatten = S := ⟨_, rfl⟩
      obtain ⟨S2, hS2⟩ : ∃ S2, bstr L[i] = S2 := ⟨_, rfl⟩
      rw [hS, hS2] at hst
      rw [hS] at hs1 ⊢
      rw [hS2] at hs2 a1
      have z1 : S.size ≤ 32768 := by omega
      have z2 : S2.size ≤ 512 := by omega
      have HST := Lib.hid hst
      clear hst hs1 hs2 hle hfl hq hS hS2
      go_wp2_with fail
      exact ⟨⟨i + 1, by omega, by go_num, by rw [HST.out]⟩, by simp [intOf]; omega⟩
    · have hd : decide ((i : Int) < L.length) = false := decide_eq_false (by omega)
      obtain rfl : i = L.length := by omega
      rw [List.take_length]
      have hsz := bstr_size L.flatten
      obtain ⟨S, hS⟩ : ∃ S, bstr L.flatten = S := ⟨_, rfl⟩
      rw [hS] at hsz ⊢
      have HS := Lib.hid hS
      have HSZ := Lib.hid hsz
      clear hS hsz
      go_wp2_with fail
      refine (Table_c b id wide L w HPY.out HCH.out).mono ?_
      rintro e w1 ⟨v1, rfl, ho1, hb1⟩
      obtain ⟨A5, c5, e5, hc5, hr5⟩ := ho1.reads
      subst e5
      have hs1 := hb1.size
      have HR5 := Lib.hid hr5
      have HB1 := Lib.hid hb1
      clear ho1 hb1 hr5 k2
      go_wp2_with fail
      have h11 := (HB1.out.block b hb).trans H1.out
      have hbx : b < w1.heap.size := (Array.getElem?_eq_some_iff.1 h11).1
      have HTB : Hid (∀ W', Below w1.heap.size w1 W' → W'.cell? ⟨b, 0, none⟩ = some (.int .i64 (id : Nat)) ∧ W'.cell? ⟨b, 2, none⟩ = some (.slice AL L.length cL)) := Lib.hid (fun W' h => by
        have h1 := (h.block b hbx).trans h11
        exact ⟨by rw [cell_of_row _ _ _ _ _ _ h1]; rfl, by rw [cell_of_row _ _ _ _ _ _ h1]; rfl⟩)
      obtain ⟨fl, hfl⟩ : ∃ fl, L.flatten.length = fl := ⟨_, rfl⟩
      have hsz := HSZ.out
      have hflb := HFL.out
      rw [hfl] at hsz hflb
      have hnd : binN ++ bigN 4 id ++ bigN 2 L.length ++ bigN 4 fl ++ bigN 4 (crcMore 0 (tableN L)) = head18 id L := by unfold head18; rw [hfl]
      obtain ⟨X1, hX1⟩ : ∃ X1, binN ++ bigN 4 id = X1 := ⟨_, rfl⟩
      have hl1 : X1.length = 8 := by rw [← hX1]; simp [binN, bigN_len]
      rw [hX1] at hnd
      obtain ⟨X2, hX2⟩ : ∃ X2, X1 ++ bigN 2 L.length = X2 := ⟨_, rfl⟩
      have hl2 : X2.length = 10 := by rw [← hX2]; simp [hl1, bigN_len]
      rw [hX2] at hnd
      obtain ⟨X3, hX3⟩ : ∃ X3, X2 ++ bigN 4 fl = X3 := ⟨_, rfl⟩
      have hl3 : X3.length = 14 := by rw [← hX3]; simp [hl2, bigN_len]
      rw [hX3] at hnd
      have HND := Lib.hid hnd
      have HX1 := Lib.hid hX1
      have HX2 := Lib.hid hX2
      have HX3 := Lib.hid hX3
      have HL1 := Lib.hid hl1
      have HL2 := Lib.hid hl2
      have HL3 := Lib.hid hl3
      have HFLE := Lib.hid hfl
      have hok1 : id < 256 ^ 4 := by show id < 4294967296; omega
      have hok2 : L.length < 256 ^ 2 := by show L.length < 65536; omega
      have hok3 : fl < 256 ^ 4 := by show fl < 4294967296; omega
      have HOK1 := Lib.hid hok1
      have HOK2 := Lib.hid hok2
      have HOK3 := Lib.hid hok3
      clear h11 hnd hX1 hX2 hX3 hl1 hl2 hl3 hfl hok1 hok2 hok3
      refine wp_region_late [5, 10] (fun w' => w'.cell? ⟨b, 0, none⟩ = some (.int .i64 (id : Nat)) ∧ w'.cell? ⟨b, 2, none⟩ = some (.slice AL L.length cL)) (by kernel_rfl) (HTB.out _ ((Below.refl _ _).drew)) (fun hT => ?_)
      have HB' : Below w1.heap.size w1 w1.drew := (Below.refl _ _).drew
      have HT' := HTB.out _ HB'
      generalize w1.drew = x0 at HB' HT' hT ⊢
      refine WL.take (i := 2) (v := ?_) rfl (by kernel_rfl) (by kernel_rfl) (by kernel_rfl) (by kernel_rfl) (fun _ _ _ h => h) (Or.inl ⟨by rfl, ?_⟩) (by assumption) ?_
      rotate_left 1
      · (intro w' hSw; (try (replace hSw := hSw (by decide); dsimp only at hSw)); go_split_ands; go_simp; try with_reducible rfl)
      simp only [Act.put, List.getElem_toArray, List.getElem_cons_zero, List.getElem_cons_succ, List.setIfInBounds_toArray, List.set_cons_zero, List.set_cons_succ]
      refine WL.take (i := 3) (v := ?_) rfl (by kernel_rfl) (by kernel_rfl) (by kernel_rfl) (by kernel_rfl) (fun _ _ _ h => h) (Or.inl ⟨by rfl, ?_⟩) (by assumption) ?_
      rotate_left 1
      · (intro w' hSw; (try (replace hSw := hSw (by decide); dsimp only at hSw)); go_split_ands; go_simp; try with_reducible rfl)
      simp only [Act.put, List.getElem_toArray, List.getElem_cons_zero, List.getElem_cons_succ, List.setIfInBounds_toArray, List.set_cons_zero, List.set_cons_succ]
      refine WL.take (i := 4) (v := ?_) rfl (by kernel_rfl) (by kernel_rfl) (by kernel_rfl) (by kernel_rfl) (fun _ _ _ h => h) (Or.inl ⟨by rfl, ?_⟩) (by assumption) ?_
      rotate_left 1
      · (intro w' hSw; (try (replace hSw := hSw (by decide); dsimp only at hSw)); go_split_ands; go_simp; try with_reducible rfl)
      simp only [Act.put, List.getElem_toArray, List.getElem_cons_zero, List.getElem_cons_succ, List.setIfInBounds_toArray, List.set_cons_zero, List.set_cons_succ]
      refine WL.take (i := 5) (v := ?_) rfl (by kernel_rfl) (by kernel_rfl) (by kernel_rfl) (by kernel_rfl) (fun _ _ _ h => h) (Or.inl ⟨by rfl, ?_⟩) (by assumption) ?_
      rotate_left 1
      · (intro w' hSw; (try (replace hSw := hSw (by decide); dsimp only at hSw)); go_split_ands; go_simp; try with_reducible rfl)
      simp only [Act.put, List.getElem_toArray, List.getElem_cons_zero, List.getElem_cons_succ, List.setIfInBounds_toArray, List.set_cons_zero, List.set_cons_succ]
      refine WL.take (i := 7) (v := ?_) rfl (by kernel_rfl) (by kernel_rfl) (by kernel_rfl) (by kernel_rfl) (fun _ _ _ h => h) (Or.inl ⟨by rfl, ?_⟩) (by assumption) ?_
      rotate_left 1
      · (intro w' hSw; (try (replace hSw := hSw (by decide); dsimp only at hSw)); go_split_ands; go_simp; try with_reducible rfl)
      simp only [Act.put, List.getElem_toArray, List.getElem_cons_zero, List.getElem_cons_succ, List.setIfInBounds_toArray, List.set_cons_zero, List.set_cons_succ]
      refine WL.take (i := 8) (v := ?_) rfl (by kernel_rfl) (by kernel_rfl) (by kernel_rfl) (by kernel_rfl) (fun _ _ _ h => h) (Or.inl ⟨by rfl, ?_⟩) (by assumption) ?_
      rotate_left 1
      · (intro w' hSw; (try (replace hSw := hSw (by decide); dsimp only at hSw)); go_split_ands; go_simp; try with_reducible rfl)
      simp only [Act.put, List.getElem_toArray, List.getElem_cons_zero, List.getElem_cons_succ, List.setIfInBounds_toArray, List.set_cons_zero, List.set_cons_succ]
      refine WL.take (i := 9) (v := ?_) rfl (by kernel_rfl) (by kernel_rfl) (by kernel_rfl) (by kernel_rfl) (fun _ _ _ h => h) (Or.inl ⟨by rfl, ?_⟩) (by assumption) ?_
      rotate_left 1
      · (intro w' hSw; (try (replace hSw := hSw (by decide); dsimp only at hSw)); go_split_ands; go_simp; try with_reducible rfl)
      simp only [Act.put, List.getElem_toArray, List.getElem_cons_zero, List.getElem_cons_succ, List.setIfInBounds_toArray, List.set_cons_zero, List.set_cons_succ]
      refine WL.take (i := 10) (v := ?_) rfl (by kernel_rfl) (by kernel_rfl) (by kernel_rfl) (by kernel_rfl) (fun _ _ _ h => h) (Or.inl ⟨by rfl, ?_⟩) (by assumption) ?_
      rotate_left 1
      · (intro w' hSw; (try (replace hSw := hSw (by decide); dsimp only at hSw)); go_split_ands; go_simp; try with_reducible rfl)
      simp only [Act.put, List.getElem_toArray, List.getElem_cons_zero, List.getElem_cons_succ, List.setIfInBounds_toArray, List.set_cons_zero, List.set_cons_succ]
      refine WL.take (i := 11) (v := ?_) rfl (by kernel_rfl) (by kernel_rfl) (by kernel_rfl) (by kernel_rfl) (fun _ _ _ h => h) (Or.inl ⟨by rfl, ?_⟩) (by assumption) ?_
      rotate_left 1
      · (intro w' hSw; (try (replace hSw := hSw (by decide); dsimp only at hSw)); go_split_ands; go_simp; try with_reducible rfl)
      simp only [Act.put, List.getElem_toArray, List.getElem_cons_zero, List.getElem_cons_succ, List.setIfInBounds_toArray, List.set_cons_zero, List.set_cons_succ]
      refine WL.take (i := 13) (v := ?_) rfl (by kernel_rfl) (by kernel_rfl) (by kernel_rfl) (by kernel_rfl) (fun _ _ _ h => h) (Or.inl ⟨by rfl, ?_⟩) (by assumption) ?_
      rotate_left 1
      · (intro w' hSw; (try (replace hSw := hSw (by decide); dsimp only at hSw)); go_split_ands; go_simp; try with_reducible rfl)
      simp only [Act.put, List.getElem_toArray, List.getElem_cons_zero, List.getElem_cons_succ, List.setIfInBounds_toArray, List.set_cons_zero, List.set_cons_succ]
      refine WL.take (i := 14) (v := ?_) rfl (by kernel_rfl) (by kernel_rfl) (by kernel_rfl) (by kernel_rfl) (fun _ _ _ h => h) (Or.inl ⟨by rfl, ?_⟩) (by assumption) ?_
      rotate_left 1
      · (intro w' hSw; (try (replace hSw := hSw (by decide); dsimp only at hSw)); go_split_ands; go_simp; try with_reducible rfl)
      simp only [Act.put, List.getElem_toArray, List.getElem_cons_zero, List.getElem_cons_succ, List.setIfInBounds_toArray, List.set_cons_zero, List.set_cons_succ]
      refine WL.one (i := 0) (by kernel_rfl) rfl (fun K hK => ?_)
      go_simp
      have hb' := HB'.alloc (HB'.size) (.cells #[.int .u8 66, .int .u8 73, .int .u8 78, .int .u8 49] 5)
      have hg := heap_alloc_new x0 (.cells #[.int .u8 66, .int .u8 73, .int .u8 78, .int .u8 49] 5)
      have hge : w1.heap.size ≤ x0.heap.size := HB'.size
      refine hK.out _ _ (fun _ => HTB.out _ hb') ?_
      clear hK K HB' HT' hT
      generalize x0.alloc (.cells #[.int .u8 66, .int .u8 73, .int .u8 78, .int .u8 49] 5) = x1 at hb' hg ⊢
      generalize x0.heap.size = g0 at hg hge ⊢
      have HT' := HTB.out _ hb'
      refine WL.one (i := 1) (by kernel_rfl) rfl (fun K hK => ?_)
      rw [if_pos (by rfl)]
      refine wp_convert_mark 27 5 (.tmp 27) (by rfl) #[.int .u8 66, .int .u8 73, .int .u8 78, .int .u8 49] g0 4 4 Try.underlying27 Try.underlying5 hg (by rfl) ?_
      intro x2 hg2 hgr
      have hb2 := hb'.grown hgr hb'.size (fun j ej => by cases ej; exact hge)
      go_simp
      refine hK.out _ _ (fun _ => HTB.out _ hb2) ?_
      clear hK K HT' hg hgr hb' hge
      have HT' := HTB.out _ hb2
      have hrb : RN .u8 x2 (some ⟨g0, 0, none⟩) binN := RN.ofRowAt hg2 (fun j hj => by
        have hj : j < 4 := hj
        rcases j with _ | _ | _ | _ | j
        · rfl
        · rfl
        · rfl
        · rfl
        · omega)
      refine WL.one (i := 6) (by kernel_rfl) rfl (fun K hK => ?_)
      go_simp
      go_at_call 38
      refine (put_c (some ⟨g0, 0, none⟩) 4 binN id 4 x2 hrb (by decide) (by decide) (by decide) HOK1.out).mono ?_
      rintro e x3 ⟨v3, rfl, ho3, hb3⟩
      rw [HX1.out] at ho3
      obtain ⟨B3, d3, e3, hc3, hr3⟩ := ho3.reads
      subst e3
      have hbb3 := hb2.trans (hb3.mono hb2.size)
      have HT3 := HTB.out _ hbb3
      go_simp
      refine hK.out _ _ (fun _ => HT3) ?_
      clear hK K HT' hrb hg2 hb2 ho3 hb3
      refine WL.late (i := 12) (by kernel_rfl) rfl (by kernel_rfl) (fun K hK => ?_)
      go_simp
      go_at_call 38
      refine (put_c B3 d3 X1 L.length 2 x3 hr3 (by rw [HL1.out]; decide) (by decide) (by decide) HOK2.out).mono ?_
      rintro e x4 ⟨v4, rfl, ho4, hb4⟩
      rw [HX2.out] at ho4
      obtain ⟨B4, d4, e4, hc4, hr4⟩ := ho4.reads
      subst e4
      have hbb4 := hbb3.trans (hb4.mono hbb3.size)
      clear HT3 hr3 hbb3 ho4 hb4
      go_simp
      refine hK.out _ _ ?_
      clear hK K
      refine WL.late (i := 15) (by kernel_rfl) rfl (by kernel_rfl) (fun K hK => ?_)
      go_simp
      go_at_call 38
      refine (put_c B4 d4 X2 fl 4 x4 hr4 (by rw [HL2.out]; decide) (by decide) (by decide) HOK3.out).mono ?_
      rintro e x5 ⟨v5, rfl, ho5, hb5⟩
      rw [HX3.out] at ho5
      obtain ⟨B5, d5, e5, hc5', hr5⟩ := ho5.reads
      subst e5
      have hbb5 := hbb4.trans (hb5.mono hbb4.size)
      have HR5' := Lib.hid hr5
      have HBB5 := Lib.hid hbb5
      have hs5 := hbb5.size
      clear hr4 hbb4 ho5 hb5 hr5 hbb5
      go_simp
      refine hK.out _ _ ?_
      clear hK K
      refine WL.late (i := 16) (by kernel_rfl) rfl (by kernel_rfl) (fun K hK => ?_)
      go_simp
      refine hK.out _ _ ?_
      clear hK K
      refine WL.done (by kernel_rfl) ?_ _
      have hTb := tableN_lt L
      have hTl : (tableN L).length ≤ 3000 := by rw [tableN_len]; omega
      have hcl := crcMore_lt 0 (tableN L)
      have hcrc := refCrcMore_c 0 A5 c5 (tableN L) x5 (by decide) (HR5.out.below HBB5.out) hTb
      have hnd := HND.out
      obtain ⟨T, hT⟩ : ∃ T, tableN L = T := ⟨_, rfl⟩
      rw [hT] at hTb hTl hcl hcrc hnd hc5 HR5 ⊢
      obtain ⟨crc, hce⟩ : ∃ crc, crcMore 0 T = crc := ⟨_, rfl⟩
      rw [hce] at hcl hcrc hnd
      have hcr0 : (0 : Int) ≤ (crc : Int) := by omega
      have hcr1 : (crc : Int) < 4294967296 := by omega
      have hcw : IntKind.i64.wrap (crc : Int) = crc := by rw [IntKind.wrap_i64]; omega
      have hok4 : crc < 256 ^ 4 := by show crc < 4294967296; omega
      have HCRC := Lib.hid hcrc
      have HND2 := Lib.hid hnd
      have HTT := Lib.hid hT
      have HTBB := Lib.hid hTb
      have HTL := Lib.hid hTl
      have HOK4 := Lib.hid hok4
      clear hTb hTl hcl hcrc hnd hT hce hok4
      go_wp2_with fail
      refine HCRC.out.mono ?_
      rintro e x6 ⟨rfl, hwe⟩
      subst hwe
      go_wp2_with fail
      refine (put_c B5 d5 X3 crc 4 x6 HR5'.out (by rw [HL3.out]; decide) (by decide) (by decide) HOK4.out).mono ?_
      rintro e x7 ⟨v7, rfl, ho7, hb7⟩
      rw [HND2.out] at ho7
      obtain ⟨B7, d7, e7, hc7, hr7⟩ := ho7.reads
      subst e7
      have hHl := head18_len id L
      have hHb := head18_lt id L
      have h22 : head18 id L ++ bigN 4 (crcMore 0 (head18 id L)) = head22 id L := rfl
      have hcl2 := crcMore_lt 0 (head18 id L)
      obtain ⟨H, hHe⟩ : ∃ H, head18 id L = H := ⟨_, rfl⟩
      rw [hHe] at ho7 hc7 hr7 hHl hHb h22 hcl2 ⊢
      have hcrc2 := refCrcMore_c 0 B7 d7 H x7 (by decide) hr7 hHb
      obtain ⟨crc2, hce2⟩ : ∃ crc2, crcMore 0 H = crc2 := ⟨_, rfl⟩
      rw [hce2] at h22 hcl2 hcrc2
      have hk0 : (0 : Int) ≤ (crc2 : Int) := by omega
      have hk1 : (crc2 : Int) < 4294967296 := by omega
      have hkw : IntKind.i64.wrap (crc2 : Int) = crc2 := by rw [IntKind.wrap_i64]; omega
      have hok5 : crc2 < 256 ^ 4 := by show crc2 < 4294967296; omega
      have HBB7 := Lib.hid (HBB5.out.trans (hb7.mono hs5))
      have hs7 := HBB7.out.size
      have HR7 := Lib.hid hr7
      have HCRC2 := Lib.hid hcrc2
      have H22 := Lib.hid h22
      have HHL := Lib.hid hHl
      have HOK5 := Lib.hid hok5
      clear ho7 hb7 hr7 hHl hHb h22 hcl2 hHe hcrc2 hce2 hok5 hcr0 hcr1 hcw HBB5 HCRC HR5'
      go_wp2_with fail
      refine HCRC2.out.mono ?_
      rintro e x8 ⟨rfl, hwe⟩
      subst hwe
      go_wp2_with fail
      refine (put_c B7 d7 H crc2 4 x8 HR7.out (by rw [HHL.out]; decide) (by decide) (by decide) HOK5.out).mono ?_
      rintro e x9 ⟨v9, rfl, ho9, hb9⟩
      rw [H22.out] at ho9
      have hbb9 := HBB7.out.trans (hb9.mono hs7)
      have ho9' := ho9.lower hs7
      have h22l := head22_len id L
      have hbod : bodyN id L = head22 id L ++ List.replicate 106 0 ++ L.flatten ++ tableN L := rfl
      obtain ⟨H2, hH2⟩ : ∃ H2, head22 id L = H2 := ⟨_, rfl⟩
      rw [hH2] at ho9' h22l hbod
      rw [HTT.out] at hbod
      have HBB9 := Lib.hid hbb9
      have HO9 := Lib.hid ho9'
      have HL22 := Lib.hid h22l
      have HBOD := Lib.hid hbod
      obtain ⟨B9, d9, e9, _, _⟩ := ho9'.reads
      clear ho9 hb9 hbb9 ho9' h22l hbod hH2 hk0 hk1 hkw HBB7 HR7 HCRC2 HHL H22
      subst e9
      go_wp2_with fail
      go_loopw [6] (fun vo Wr => ∃ j : Nat, j ≤ 106 ∧ OwnN .u8 5 Wr w1.heap.size vo (H2 ++ List.replicate j 0) ∧ Below w1.heap.size w1 Wr) (fun vo _ => 128 - lenV vo)
      case atStart => exact ⟨0, by omega, by simpa using HO9.out, HBB9.out⟩
      case round =>
        obtain ⟨j, hj, ho, hB⟩ := hrel
        obtain ⟨B1, d1, e1, hc1, hr1⟩ := ho.reads
        subst e1
        have hll : (H2 ++ List.replicate j 0).length = 22 + j := by rw [List.length_append, HL22.out]; simp
        have hsr := hB.size
        by_cases hlt : j < 106
        · have hnx : H2 ++ List.replicate (j + 1) 0 = H2 ++ List.replicate j 0 ++ [0] := by rw [List.replicate_succ']; simp
          obtain ⟨ys, hys⟩ : ∃ ys, H2 ++ List.replicate j 0 = ys := ⟨_, rfl⟩
          rw [hys] at ho hll hnx hc1 hr1 ⊢
          have hd1 : decide ((ys.length : Int) < 128) = true := decide_eq_true (by omega)
          have hly : (ys.length + 1) * 1 ≤ 140737488355328 := by omega
          have hyl : ys.length ≤ 127 := by omega
          have HLL := Lib.hid hll
          have HO := Lib.hid ho
          have HNX := Lib.hid hnx
          have HLY := Lib.hid hly
          clear hll ho hnx hly hys hr1
          go_wp2_with (at_builtin; refine append_N (w0 := w1) (W := wr) w1.heap.size rfl (.tmp 56) (.tmp 57) 27 5 .u8 1 rfl Try.underlying27 info_u8 (by decide) (.slice B1 ys.length d1) ys 0 rfl wr.heap.size rfl rfl HO.out hB hsr HLY.out ?_; intro v5 w5 ho5 hb5)
          refine ⟨⟨j + 1, by omega, by rw [HNX.out]; exact ho5, hb5⟩, ?_⟩
          obtain ⟨B6, d6, rfl, _⟩ := ho5.reads
          have := HLL.out
          simp [lenV]
          omega
        · obtain rfl : j = 106 := by omega
          have hd1 : decide (((H2 ++ List.replicate 106 0).length : Int) < 128) = false := decide_eq_false (by omega)
          have hbod := HBOD.out
          obtain ⟨ys, hys⟩ : ∃ ys, H2 ++ List.replicate 106 0 = ys := ⟨_, rfl⟩
          rw [hys] at ho hll hd1 hbod hc1 hr1 ⊢
          have hlf : ys.length + L.flatten.length ≤ 140737488355328 := by have := HFL.out; omega
          have hbase := hsr
          have HLF := Lib.hid hlf
          have HO := Lib.hid ho
          have HB := Lib.hid hB
          have HLL := Lib.hid hll
          have HBOD2 := Lib.hid hbod
          clear hll ho hB hys hlf hr1 hbod HO9 HBB9 hsz
          have hlt2 : (ys ++ L.flatten).length + T.length ≤ 140737488355328 := by rw [List.length_append]; have := HTL.out; have := HLL.out; have := HFL.out; omega
          have hyf : ys ++ L.flatten ++ T = bodyN id L := HBOD2.out.symm
          obtain ⟨zs, hzs⟩ : ∃ zs, ys ++ L.flatten = zs := ⟨_, rfl⟩
          rw [hzs] at hlt2 hyf
          have HZS := Lib.hid hzs
          have HLT2 := Lib.hid hlt2
          have HYF := Lib.hid hyf
          have HRT := Lib.hid (HR5.out.below HB.out)
          clear hzs hlt2 hyf
          go_wp2_with (first
            | (at_builtin; refine append_str w1.heap.size rfl (.tmp 59) (.tmp 60) rfl (.slice B1 ys.length d1) ys L.flatten S rfl rfl HS.out.symm HFB.out HO.out hbase HLF.out ?_; intro v5 w5 ho5 hg5; rw [HZS.out] at ho5; have hb5 : Below wr.heap.size wr w5 ∨ True := .inr trivial; have HO5 := Lib.hid ho5; have HG5 := Lib.hid hg5; have hs5 : w1.heap.size ≤ w5.heap.size := Nat.le_trans hbase hg5.size; have HRT5 := Lib.hid (HR5.out.below (HB.out.grown hg5 hbase (fun k ek => own_base HO.out k ek))); clear ho5 hg5 hb5)
            | (at_builtin; refine append_NN w1.heap.size rfl (.tmp 61) (.tmp 62) 27 5 .u8 1 rfl Try.underlying27 info_u8 (by decide) v5 zs T A5 c5 rfl rfl HO5.out HRT5.out hs5 (by have := HLT2.out; omega) ?_; intro v6 w6 ho6 hg6 _))
          rw [HYF.out] at ho6
          have hb6 : Below w1.heap.size w1 w6 := (HB.out.grown HG5.out hbase (fun k ek => own_base HO.out k ek)).grown hg6 hs5 (fun k ek => own_base HO5.out k ek)
          have hbl := bodyN_len id L
          have hfin : bytesN id L = bodyN id L ++ List.replicate (padZ (bodyN id L).length) 0 := rfl
          have hF := HFL.out
          obtain ⟨BB, hBB⟩ : ∃ BB, bodyN id L = BB := ⟨_, rfl⟩
          rw [hBB] at hbl hfin ho6
          obtain ⟨z, hz⟩ : ∃ z, padZ BB.length = z := ⟨_, rfl⟩
          rw [hz] at hfin
          have hBl : BB.length ≤ 40000 := by omega
          have hz128 : z < 128 := by rw [← hz]; unfold padZ; omega
          have hzm : ∀ j, j ≤ z → ((BB.length + j) % 128 = 0 ↔ j = z) := fun j hj => by
            rw [← hz] at hj ⊢
            unfold padZ at hj ⊢
            omega
          have HO6 := Lib.hid ho6
          have HB6 := Lib.hid hb6
          have HFIN := Lib.hid hfin
          have HZM := Lib.hid hzm
          clear ho6 hg6 hb6 hbl hfin hF hBB hz hzm HO5 HG5 HRT5 hs5 HO HB HLL HBOD2 HZS HLT2 HYF HRT HLF hd1
          obtain ⟨A6, c6, e6, hc6, _⟩ := HO6.out.reads
          subst e6
          go_wp2_with fail
          go_loopw [6] (fun vo Wr => ∃ j : Nat, j ≤ z ∧ OwnN .u8 5 Wr w1.heap.size vo (BB ++ List.replicate j 0) ∧ Below w1.heap.size w1 Wr) (fun vo _ => z + BB.length - lenV vo)
          case atStart => exact ⟨0, by omega, by simpa using HO6.out, HB6.out⟩
          case round =>
            obtain ⟨j, hj, ho, hB⟩ := hrel
            obtain ⟨B8, d8, e8, hc8, hr8⟩ := ho.reads
            subst e8
            have hll : (BB ++ List.replicate j 0).length = BB.length + j := by rw [List.length_append]; simp
            have hsr := hB.size
            by_cases hlt : j < z
            · have hnx : BB ++ List.replicate (j + 1) 0 = BB ++ List.replicate j 0 ++ [0] := by rw [List.replicate_succ']; simp
              have hne : ¬ (BB.length + j) % 128 = 0 := fun h => by have := (HZM.out j (by omega)).1 h; omega
              obtain ⟨ys2, hys⟩ : ∃ ys2, BB ++ List.replicate j 0 = ys2 := ⟨_, rfl⟩
              rw [hys] at ho hll hnx hc8 hr8 ⊢
              have hd1 : ((ys2.length : Int) % 128 != 0) = true := by rw [bne_iff_ne, hll]; intro h; exact hne (by omega)
              have hly : (ys2.length + 1) * 1 ≤ 140737488355328 := by omega
              have hyl : ys2.length ≤ 40128 := by omega
              have HLL := Lib.hid hll
              have HO := Lib.hid ho
              have HNX := Lib.hid hnx
              have HLY := Lib.hid hly
              clear hll ho hnx hly hys hr8 hne
              go_wp2_with (at_builtin; refine append_N (w0 := w1) (W := wr) w1.heap.size rfl (.tmp 68) (.tmp 69) 27 5 .u8 1 rfl Try.underlying27 info_u8 (by decide) (.slice B8 ys2.length d8) ys2 0 rfl wr.heap.size rfl rfl HO.out hB hsr HLY.out ?_; intro v5 w5 ho5 hb5)
              refine ⟨⟨j + 1, by omega, by rw [HNX.out]; exact ho5, hb5⟩, ?_⟩
              obtain ⟨B6, d6, rfl, _⟩ := ho5.reads
              have := HLL.out
              simp [lenV]
              omega
            · obtain rfl : j = z := by omega
              have heq := (HZM.out j (Nat.le_refl _)).2 rfl
              rw [← HFIN.out] at ho hll hc8 hr8 ⊢
              obtain ⟨ys2, hys⟩ : ∃ ys2, bytesN id L = ys2 := ⟨_, rfl⟩
              have HYS := Lib.hid hys
              rw [hys] at ho hll hc8 hr8 ⊢
              have hd1 : ((ys2.length : Int) % 128 != 0) = false := by
                rw [hll]
                simp
                omega
              have hyl : ys2.length ≤ 40128 := by omega
              have HO := Lib.hid ho
              clear ho hll hys hr8 heq
              go_wp2_with fail
              go_ret
              exact ⟨_, rfl, by rw [HYS.out]; exact HO.out.lower hs1, HB1.out.trans (hB.mono hs1)⟩
end Go.Proofs.Ytejmklfhcealnaa.F
