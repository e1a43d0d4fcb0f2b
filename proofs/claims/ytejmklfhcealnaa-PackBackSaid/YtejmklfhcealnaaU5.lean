/- Parse of bytes has the number and the sums; each chunk of it is what was added: walked. -/
import Derived.Test.YtejmklfhcealnaaM4
import Derived.Deep.DeepAppendWide
import Derived.BigQuiet
set_option linter.unusedVariables false
set_option linter.unusedSimpArgs false
namespace Go.Proofs.Ytejmklfhcealnaa.F
open Go.RowKit Go.Proofs.YtejmklfhcealnaaW.PrintWords

section
variable {P : Program} {ops : Array Oper} {rest : List Oper} {o : Oper} {a : Act} {Q : Exit → Act → World → Prop}
/-- 'append(xs, ys...)' of bytes up to what growslice itself bears. -/
theorem append_NNx {W : World} (base : Nat) (hgd : o.guard = none) (s x : Operand) (t e : TypeId) (k : IntKind) (bytes : Nat)
    (ho : o.op = .call { callee := .builtin .append, args := #[s, x], argTypes := #[t, t] })
    (ht : P.underlying t = some (.slice e)) (hinfo : (P.info? e).map (fun i => (i.zero, i.size, i.bytes)) = some (some (.int k 0), 1, bytes)) (hb0 : 0 < bytes)
    (v : Value) (xs ys : List Nat) (A : Option Addr) (c : Nat) (hs : a.eval s = v) (hx : a.eval x = .slice A ys.length c)
    (HO : OwnN k e W base v xs) (HR : RN k W A ys) (hbase : base ≤ W.heap.size) (hl : ((xs.length + ys.length) + (xs.length + ys.length) / 4 + 192) * bytes ≤ 281474976710656)
    (h : ∀ v1 w1, OwnN k e w1 base v1 (xs ++ ys) → W.grownBy w1 v.ownBlock → wpList P ops Q rest (a.put o.dst v1) w1) :
    wpList P ops Q (o :: rest) a W := by
  obtain ⟨i0, hi, hzz⟩ := Option.map_eq_some_iff.1 hinfo
  simp only [Prod.mk.injEq] at hzz
  obtain ⟨hz0, hz1, hz2⟩ := hzz
  have hlen : xs.length + ys.length ≤ 281474976710656 := by
    have := Nat.le_mul_of_pos_right ((xs.length + ys.length) + (xs.length + ys.length) / 4 + 192) hb0
    omega
  have HO' : W.ownsRow base e 1 v xs.length (xs.map (encN k)) := HO
  have hrun : ∃ v1 w1, (Builtin.append_ #[t, t] o.type #[v, .slice A ys.length c]).run P W = .ok v1 w1 ∧ OwnN k e w1 base v1 (xs ++ ys) ∧ W.grownBy w1 v.ownBlock := by
    cases A with
    | none =>
      have h0 : ys = [] := by
        cases ys with
        | nil => rfl
        | cons y ys => obtain ⟨ad, h, _⟩ := HR.at 0 (by simp); cases h
      subst h0
      refine ⟨v, W, ?_, by simpa using HO, World.grownBy.refl W _⟩
      rcases HO'.2 with ⟨rfl, hn⟩ | ⟨g, cap, cur, rfl, _, _, hnc, _⟩
      · simp [Builtin.append_, run_underlying ht, sizeOf, typeInfo, hi, Builtin.lenOf, Builtin.firstCells]
      · simp [Builtin.append_, run_underlying ht, sizeOf, typeInfo, hi, Builtin.lenOf, Builtin.firstCells, hnc, storeCells]
    | some ad =>
      have hcells : ∀ j u, (ys.map (encN k))[j]? = some u → W.cell? (ad.add j) = some u := by
        intro j u hu
        have hj : j < ys.length := by
          rcases Nat.lt_or_ge j ys.length with h | h
          · exact h
          · simp [List.getElem?_eq_none h] at hu
        obtain ⟨ad', h', hc⟩ := HR.at j hj
        injection h' with h'
        subst h'
        simp [hj] at hu
        rw [← hu]
        exact hc
      obtain ⟨v1, w1, hr, h2, h3, _⟩ := run_append_own_wide (P := P) W base t o.type e i0 (.int k 0) 1 bytes ht hi hz0 hz1 hz2 rfl (by omega) v xs.length (xs.map (encN k)) HO' ad ys.length c (ys.map (encN k)) (by simp) hcells
        (by intro u hu; simp only [List.mem_map] at hu; obtain ⟨q, _, rfl⟩ := hu; rfl) (by simp only [maxLen]; omega) hl hbase
      exact ⟨v1, w1, hr, by simpa [OwnN] using h2, h3⟩
  obtain ⟨v1, w1, hr, hown, hg⟩ := hrun
  refine wpList_plain hgd fun K hK => ?_
  unfold Oper.wp execOp
  simp only [ho, resolve, invoke, builtin, Sem.run_bind, Sem.run_pure, Result.andThen_ok, List.map_toArray, List.map_cons, List.map_nil, hs, hx, hr]
  exact hK _ _ (h v1 w1 hown hg)
end

set_option maxRecDepth 20000 in
set_option maxHeartbeats 8000000 in
theorem PackBack_walk (m0 : Nat) (A B : Option Addr) (c d : Nat) (css : List (List Nat)) (zs : List Nat) (w : World) (hr : RR w A css) (hby : ∀ x ∈ css.flatten, x < 256) (hlen : ∀ x ∈ css, x.length ≤ 140737488351232) (hrz : RN .u8 w B zs) (hzb : ∀ x ∈ zs, x < 256) (hzl : zs.length ≤ 140737488351232) (hm : m0 < 65536) :
    Calls Try.prog 9 #[.int .u16 m0, .slice A css.length c, .slice B zs.length d] w fun e w' => e = .returned (.bool true) ∧ Below w.heap.size w w' := by
  have hid : m0 % 4096 < 4096 := Nat.mod_lt _ (by decide)
  have hmd := made_ok (m0 % 4096) 64 A c css w hid (by decide) (by decide) hr hby hlen
  have hid1 : (m0 : Int).tmod 4096 = ((m0 % 4096 : Nat) : Int) := by rw [Int.tmod_eq_emod_of_nonneg (by omega)]; omega
  have hid2 : (m0 : Int) % 4096 = ((m0 % 4096 : Nat) : Int) := by omega
  have wm0 : IntKind.i64.wrap (m0 : Int) = (m0 : Int) := by rw [IntKind.wrap_i64]; omega
  obtain ⟨id, hide⟩ : ∃ id, m0 % 4096 = id := ⟨_, rfl⟩
  rw [hide] at hmd hid1 hid2 hid
  have wid : IntKind.i64.wrap (id : Int) = (id : Int) := by rw [IntKind.wrap_i64]; omega
  have HMD : Hid (Calls Try.prog 10 #[.int .i64 (id : Nat), .int .i64 64, .slice A css.length c] w fun e w' => ∃ bx bY L, e = .returned (.tuple #[.pointer (some ⟨bx, 0, none⟩), .pointer (some ⟨bY, 0, none⟩), .bool true]) ∧ MadeOk id 64 w bx bY L w') := Lib.hid hmd
  have HRZ := Lib.hid hrz
  have HZB := Lib.hid hzb
  have hmz := hrz.max
  clear hmd hr hby hlen hrz hzb hide
  go_enter Try.func9, Try.ntmps9
  go_wp2_with fail
  refine HMD.out.mono ?_
  rintro e w1 ⟨bx, bY, L, rfl, hm1⟩
  obtain ⟨hbx, hbY, hpk, hpy, hch, hfit, hb1⟩ := hm1
  have HPK := Lib.hid hpk
  have HPY := Lib.hid hpy
  have HCH := Lib.hid hch
  have HB1 := Lib.hid hb1
  have HFIT := Lib.hid hfit
  have hs1 := hb1.size
  clear hpk hpy hch hfit hb1 HMD wm0 wid hid1 hid2
  go_wp2_with fail
  refine (Bytes_c bx id 64 L w1 HPK.out hid HCH.out).mono ?_
  rintro e w2 ⟨v2, rfl, ho2, hb2⟩
  have hfitl := bytesN_fit id 64 L HFIT.out
  have hpb := parse_bytes id L zs hid HCH.out
  have hsec := bytes_sectors id L
  have hck := chunk_bytes id L HCH.out
  have hbt := bytesN_lt id L HCH.out.flat.2
  have hl64 := HCH.out.1
  obtain ⟨n, hne⟩ : ∃ n, L.length = n := ⟨_, rfl⟩
  obtain ⟨F, hFe⟩ : ∃ F, L.flatten.length = F := ⟨_, rfl⟩
  have hF := HCH.out.flat.1
  have hbl := bytesN_len id L
  rw [hFe] at hF hbl
  rw [hne] at hl64 hbl
  have hsecb : (128 + L.flatten.length + 34 * L.length + 127) / 128 ≤ 100000 := by rw [hFe, hne]; omega
  obtain ⟨sec, hse⟩ : ∃ sec, (128 + L.flatten.length + 34 * L.length + 127) / 128 = sec := ⟨_, rfl⟩
  rw [hse] at hpb hsec hsecb
  obtain ⟨p, hp⟩ : ∃ p, bytesN id L = p := ⟨_, rfl⟩
  rw [hp] at ho2 hpb hsec hck hbt hfitl hbl
  obtain ⟨A2, c2, e2, hc2, hr2⟩ := ho2.reads
  subst e2
  have hm2 := hr2.max
  obtain ⟨BL, hBL⟩ : ∃ BL, p.length = BL := ⟨_, rfl⟩
  rw [hBL] at hsec hfitl hbl hc2 ⊢
  have hbl0 : 0 < BL := by omega
  have HBL := Lib.hid hBL
  have HR2 := Lib.hid hr2
  have HPB := Lib.hid hpb
  have HSEC := Lib.hid hsec
  have HCK := Lib.hid hck
  have HBT := Lib.hid hbt
  have HNE := Lib.hid hne
  have HPY2 := Lib.hid (HPY.out.below hb2)
  have HB2 := Lib.hid (HB1.out.trans (hb2.mono hs1))
  have HRZ2 := Lib.hid (HRZ.out.below (HB1.out.trans (hb2.mono hs1)))
  have hs2 := hb2.size
  clear ho2 hr2 hpb hsec hck hbt hne hFe hse hp hbl hb2 HPY HPK HRZ HFIT hBL HB1
  have hOE : OwnN .u8 5 (w2.alloc (.cells #[] 5)) w2.heap.size (.slice (some ⟨w2.heap.size, 0, none⟩) 0 0) [] := emptyV 5 1 _
  have hbE : Below w2.heap.size w2 (w2.alloc (.cells #[] 5)) := (Below.refl _ _).alloc (Nat.le_refl _) _
  have hsE : w2.heap.size ≤ (w2.alloc (.cells #[] 5)).heap.size := hbE.size
  have HOE := Lib.hid hOE
  have HBE := Lib.hid hbE
  have HRE := Lib.hid (HR2.out.below hbE)
  clear hOE hbE
  go_wp2_with (first
    | (at_builtin; refine append_NN w2.heap.size rfl (.tmp 34) (.tmp 35) 27 5 .u8 1 rfl Try.underlying27 info_u8 (by decide) (.slice (some ⟨w2.heap.size, 0, none⟩) 0 0) [] p A2 c2 rfl (by rw [HBL.out]; rfl) HOE.out HRE.out hsE (by rw [HBL.out]; simp; omega) ?_; intro v3 w3 ho3 hg3 _
       have hb3 := HBE.out.trans (below_grown HOE.out hsE hg3)
       have ho3' : OwnN .u8 5 w3 w2.heap.size v3 p := by simpa using ho3
       have HRZ3 := Lib.hid (HRZ2.out.below hb3)
       have HB3 := Lib.hid hb3
       have HO3 := Lib.hid ho3'
       have hs3 := hb3.size
       clear ho3 hg3 hb3 ho3')
    | (at_builtin; refine append_NNx w2.heap.size rfl (.tmp 36) (.tmp 37) 27 5 .u8 1 rfl Try.underlying27 info_u8 (by decide) v3 p zs B d rfl rfl HO3.out HRZ3.out hs3 (by rw [HBL.out]; omega) ?_; intro v4 w4 ho4 hg4
       have hb4 := HB3.out.trans (below_grown HO3.out hs3 hg4)
       obtain ⟨A4, c4, e4, hc4, hr4⟩ := ho4.reads
       subst e4
       have HB4 := Lib.hid hb4
       have HR4 := Lib.hid hr4
       have hs4 := hb4.size
       clear ho4 hg4 hb4 hr4))
  have hpc := Parse_c A4 c4 (p ++ zs) w4 HR4.out (by rw [List.length_append] at hc4 ⊢; exact hc4) (app_lt HBT.out HZB.out)
  rw [HPB.out, List.length_append] at hpc
  refine hpc.mono ?_
  clear hpc HPB HBE HOE HRE
  rintro e w5 ⟨v5, rfl, ⟨A5, c5, rfl, hr5⟩, hb5⟩
  dsimp only at hr5 ⊢
  rw [slotsFrom_len, HNE.out] at hr5 ⊢
  obtain ⟨w6, hw6⟩ : ∃ w6, w5.alloc (.cells #[.int .i64 (id : Nat), .int .i64 (sec : Nat), .slice A5 n c5] 53) = w6 := ⟨_, rfl⟩
  have hb6 : Below w5.heap.size w5 w6 := hw6 ▸ (Below.refl _ _).alloc (Nat.le_refl _) _
  have hg6 : w6.heap[w5.heap.size]? = some (.cells #[.int .i64 (id : Nat), .int .i64 (sec : Nat), .slice A5 n c5] 53 (0, 0)) := hw6 ▸ heap_alloc_new _ _
  have hs5 := hb5.size
  have hs6 := hb6.size
  have hb26 : Below w2.heap.size w2 w6 := (HB4.out.trans (hb5.mono (by omega))).trans (hb6.mono (by omega))
  have HW6 := Lib.hid hw6
  have HG6 := Lib.hid hg6
  have HB6 := Lib.hid (HB2.out.trans (hb26.mono (by omega)))
  have HR6 := Lib.hid (HR2.out.below hb26)
  have HR5 := Lib.hid (hr5.below hb6)
  have hlz : w5.heap.size < w6.heap.size := (Array.getElem?_eq_some_iff.1 hg6).1
  have hpy6 := HPY2.out.below hb26
  obtain ⟨Ay, cy, hyg, hyr, hyc⟩ := hpy6
  have hlY : bY < w6.heap.size := (Array.getElem?_eq_some_iff.1 hyg).1
  rw [HNE.out] at hyg
  have y0 : w6.cell? ⟨bY, 0, none⟩ = some (.int .i64 (id : Nat)) := by rw [cell_of_row _ _ _ _ _ _ hyg]; rfl
  have y2 : w6.cell? ⟨bY, 2, none⟩ = some (.slice Ay n cy) := by rw [cell_of_row _ _ _ _ _ _ hyg]; rfl
  have z0 : w6.cell? ⟨w5.heap.size, 0, none⟩ = some (.int .i64 (id : Nat)) := by rw [cell_of_row _ _ _ _ _ _ hg6]; rfl
  have z1 : w6.cell? ⟨w5.heap.size, 1, none⟩ = some (.int .i64 (sec : Nat)) := by rw [cell_of_row _ _ _ _ _ _ hg6]; rfl
  have z2 : w6.cell? ⟨w5.heap.size, 2, none⟩ = some (.slice A5 n c5) := by rw [cell_of_row _ _ _ _ _ _ hg6]; rfl
  have HYG := Lib.hid hyg
  have HYR := Lib.hid hyr
  have ne1 : ((id : Int) != (id : Int)) = false := by simp
  have ne2 : ((n : Int) != (n : Int)) = false := by simp
  have ne3 : ((sec : Int) * 128 != (BL : Int)) = false := by have := HSEC.out; simp; omega
  have wsec : IntKind.i64.wrap ((sec : Int) * 128) = (sec : Int) * 128 := by rw [IntKind.wrap_i64]; omega
  clear hb5 hb6 hg6 hw6 hb26 hr5 hyg hyr HR4 HB4 HRZ2 HPY2 HZB HB2 hm2 hmz
  go_wp2_with (rw [HW6.out])
  go_quiet (fail)
  generalize hWq : World.drewN w6 _ = wq
  have hbq : Below w6.heap.size w6 wq := hWq ▸ pw_below_drewN (Below.refl _ _) _
  have HBQ := Lib.hid hbq
  clear hbq hWq z0 z1 y0 ne1 ne3 wsec
  go_wp2_with fail
  go_loopw [13] (fun vi W => ∃ i : Nat, i ≤ n ∧ vi = .int .i64 i ∧ Below w6.heap.size w6 W) (fun vi _ => n - (intOf vi).toNat)
  case atStart => exact ⟨0, by omega, rfl, HBQ.out⟩
  case round =>
    obtain ⟨i, hi, rfl, hB⟩ := hrel
    have HB := Lib.hid hB
    have y2' : wr.cell? ⟨bY, 2, none⟩ = some (.slice Ay n cy) := (hB.cell (p := ⟨bY, 2, none⟩) hlY).trans y2
    have z2' : wr.cell? ⟨w5.heap.size, 2, none⟩ = some (.slice A5 n c5) := (hB.cell (p := ⟨w5.heap.size, 2, none⟩) hlz).trans z2
    clear hB
    by_cases hlt : i < n
    · have d1 : decide ((i : Int) < (n : Int)) = true := decide_eq_true (by omega)
      have hiL : i < L.length := by rw [HNE.out]; exact hlt
      have hsl := HR5.out.below HB.out
      rw [show n = (slotsFrom sumN 128 L).length by rw [slotsFrom_len, HNE.out]] at hsl
      obtain ⟨g, o, e5, hrange⟩ := hsl.slot (slots_32 128 L) i (by rw [slotsFrom_len]; exact hiL)
      obtain ⟨a, ha, ha2⟩ := slots_get L i hiL
      rw [ha] at hrange
      subst e5
      have hck := HCK.out i a hiL ha2
      have hle := flat_take_le L i
      have hF2 := HCH.out.flat.1
      have hq := HCH.out.2 _ (List.getElem_mem hiL)
      have hsN := sumN_lt L[i]
      have hsL := sumN_len L[i]
      have hst := HYR.out.below HB.out
      obtain ⟨gY, oY, eY, hcY⟩ := hst.strAt i hiL
      subst eY
      have hCl : (slCells (sumN L[i], a, L[i].length)).length = 34 := slCells_len hsL
      have hSt := strN_eq L[i]
      have hcl := fun W hR => ChunkF_c A2 c2 p (sumN L[i]) (a : Int) (L[i].length : Int) W hR HBT.out (by rw [HBL.out]; exact hc2) hsL hsN (by omega) (by omega)
      rw [hck, HBL.out] at hcl
      obtain ⟨q, hqe⟩ : ∃ q, L[i] = q := ⟨_, rfl⟩
      rw [hqe] at hrange hcY hCl hSt hcl hq
      have hsv : (slCells (sumN q, a, q.length)).toArray = slV (sumN q) (a : Int) (q.length : Int) := rfl
      obtain ⟨Cl, hCl'⟩ : ∃ Cl, slCells (sumN q, a, q.length) = Cl := ⟨_, rfl⟩
      rw [← hsv] at hcl
      rw [hCl'] at hrange hCl hcl
      have hinf : (Try.prog.info? 38).map (·.size) = some Cl.length := by rw [hCl]; exact infoS
      have HRG := Lib.hid hrange
      have HI := Lib.hid hinf
      have HCL := Lib.hid hcl
      have HRB := Lib.hid (HR6.out.below HB.out)
      have HST := Lib.hid hSt
      have i0 : (0 : Int) ≤ (i : Int) := by omega
      have i1 : (i : Int) < (n : Int) := by omega
      have hq5 := hq.2.1
      obtain ⟨S, hS⟩ : ∃ S, bstr q = S := ⟨_, rfl⟩
      rw [hS] at hcY
      have HS := Lib.hid hS
      clear hsl ha ha2 hrange hck hle hF2 hq hsN hsL hst hCl hSt hcl hqe hsv hCl' hinf hS
      go_wp2_with (refine wpList_load_mid rfl 38 (.tmp 86) rfl g (o + i * 34) rfl Cl _ HRG.out Try.underlying38 (by rfl) HI.out ?_)
      refine (HCL.out wr HRB.out).mono ?_
      rintro e w7 ⟨A7, c7, rfl, hc7, hr7, hb7⟩
      dsimp only at hc7 hr7 ⊢
      have HR7 := Lib.hid hr7
      have hszr := HB.out.size
      have y27 : w7.cell? ⟨bY, 2, none⟩ = some (.slice (some ⟨gY, oY, none⟩) n cy) := (hb7.cell (p := ⟨bY, 2, none⟩) (by show bY < _; omega)).trans y2'
      have hcY7 : w7.cell? ⟨gY, oY + i, none⟩ = some (.string S) := (hb7.cell (p := ⟨gY, oY + i, none⟩) (block_lt_of_cell hcY)).trans hcY
      have HBX := Lib.hid (HB.out.trans (hb7.mono hszr))
      clear hr7 hb7 hcY y2' z2'
      go_wp2_with fail
      have hSE : strN q = S := HST.out.trans HS.out
      have HSE := Lib.hid hSE
      clear hSE
      refine wp_region_late [4, 8, 11] (fun w' => RN .u8 w' A7 q ∧ w'.cell? ⟨bY, 2, none⟩ = some (.slice (some ⟨gY, oY, none⟩) n cy) ∧ w'.cell? ⟨gY, oY + i, none⟩ = some (.string S)) (by kernel_rfl) ⟨HR7.out.below (Below.refl _ _).drew, y27, hcY7⟩ (fun hT => ?_)
      refine WL.take (i := 0) (v := ?_) rfl (by kernel_rfl) (by kernel_rfl) (by kernel_rfl) (by kernel_rfl) (fun _ _ _ h => h) (Or.inl ⟨by rfl, ?_⟩) (by assumption) ?_
      rotate_left 1
      · (intro w' hSw; (try (replace hSw := hSw (by decide); dsimp only at hSw)); go_split_ands; go_simp; try with_reducible rfl)
      simp only [Act.put, List.getElem_toArray, List.getElem_cons_zero, List.getElem_cons_succ, List.setIfInBounds_toArray, List.set_cons_zero, List.set_cons_succ]
      refine WL.take (i := 1) (v := ?_) rfl (by kernel_rfl) (by kernel_rfl) (by kernel_rfl) (by kernel_rfl) (fun _ _ _ h => h) (Or.inl ⟨by rfl, ?_⟩) (by assumption) ?_
      rotate_left 1
      · (intro w' hSw; (try (replace hSw := hSw (by decide); dsimp only at hSw)); go_split_ands; go_simp; try with_reducible rfl)
      simp only [Act.put, List.getElem_toArray, List.getElem_cons_zero, List.getElem_cons_succ, List.setIfInBounds_toArray, List.set_cons_zero, List.set_cons_succ]
      refine WL.take (i := 2) (v := ?_) rfl (by kernel_rfl) (by kernel_rfl) (by kernel_rfl) (by kernel_rfl) (fun _ _ _ h => h) (Or.inl ⟨by rfl, ?_⟩) (by assumption) ?_
      rotate_left 1
      · (intro w' hSw; (try (replace hSw := hSw (by decide); dsimp only at hSw)); go_split_ands; go_simp; try with_reducible rfl)
      simp only [Act.put, List.getElem_toArray, List.getElem_cons_zero, List.getElem_cons_succ, List.setIfInBounds_toArray, List.set_cons_zero, List.set_cons_succ]
      refine WL.take (i := 3) (v := ?_) rfl (by kernel_rfl) (by kernel_rfl) (by kernel_rfl) (by kernel_rfl) (fun _ _ _ h => h) (Or.inl ⟨by rfl, ?_⟩) (by assumption) ?_
      rotate_left 1
      · (intro w' hSw; (try (replace hSw := hSw (by decide); dsimp only at hSw)); go_split_ands; go_simp; try with_reducible rfl)
      simp only [Act.put, List.getElem_toArray, List.getElem_cons_zero, List.getElem_cons_succ, List.setIfInBounds_toArray, List.set_cons_zero, List.set_cons_succ]
      refine WL.take (i := 4) (v := .string S) rfl (by kernel_rfl) (by kernel_rfl) (by kernel_rfl) (by kernel_rfl) (fun _ _ _ h => h) (by rw [← HS.out]; exact yields_string (by rfl) 27 9 5 (.tmp 94) (by rfl) A7 c7 q (by rfl) _ (fun w' h => (h (by decide)).1) Try.underlying27 Try.underlying5 Try.underlying9) hT ?_
      simp only [Act.put, List.getElem_toArray, List.getElem_cons_zero, List.getElem_cons_succ, List.setIfInBounds_toArray, List.set_cons_zero, List.set_cons_succ]
      refine WL.take (i := 5) (v := ?_) rfl (by kernel_rfl) (by kernel_rfl) (by kernel_rfl) (by kernel_rfl) (fun _ _ _ h => h) (Or.inl ⟨by rfl, ?_⟩) (by assumption) ?_
      rotate_left 1
      · (intro w' hSw; (try (replace hSw := hSw (by decide); dsimp only at hSw)); go_split_ands; go_simp; try with_reducible rfl)
      simp only [Act.put, List.getElem_toArray, List.getElem_cons_zero, List.getElem_cons_succ, List.setIfInBounds_toArray, List.set_cons_zero, List.set_cons_succ]
      refine WL.take (i := 6) (v := ?_) rfl (by kernel_rfl) (by kernel_rfl) (by kernel_rfl) (by kernel_rfl) (fun _ _ _ h => h) (Or.inl ⟨by rfl, ?_⟩) (by assumption) ?_
      rotate_left 1
      · (intro w' hSw; (try (replace hSw := hSw (by decide); dsimp only at hSw)); go_split_ands; go_simp; try with_reducible rfl)
      simp only [Act.put, List.getElem_toArray, List.getElem_cons_zero, List.getElem_cons_succ, List.setIfInBounds_toArray, List.set_cons_zero, List.set_cons_succ]
      refine WL.take (i := 7) (v := ?_) rfl (by kernel_rfl) (by kernel_rfl) (by kernel_rfl) (by kernel_rfl) (fun _ _ _ h => h) (Or.inl ⟨by rfl, ?_⟩) (by assumption) ?_
      rotate_left 1
      · (intro w' hSw; (try (replace hSw := hSw (by decide); dsimp only at hSw)); go_split_ands; go_simp; try with_reducible rfl)
      simp only [Act.put, List.getElem_toArray, List.getElem_cons_zero, List.getElem_cons_succ, List.setIfInBounds_toArray, List.set_cons_zero, List.set_cons_succ]
      refine WL.take (i := 8) (v := ?_) rfl (by kernel_rfl) (by kernel_rfl) (by kernel_rfl) (by kernel_rfl) (fun _ _ _ h => h) (Or.inl ⟨by rfl, ?_⟩) (by assumption) ?_
      rotate_left 1
      · (intro w' hSw; (try (replace hSw := hSw (by decide); dsimp only at hSw)); go_split_ands; go_simp; try with_reducible rfl)
      simp only [Act.put, List.getElem_toArray, List.getElem_cons_zero, List.getElem_cons_succ, List.setIfInBounds_toArray, List.set_cons_zero, List.set_cons_succ]
      refine WL.take (i := 9) (v := ?_) rfl (by kernel_rfl) (by kernel_rfl) (by kernel_rfl) (by kernel_rfl) (fun _ _ _ h => h) (Or.inl ⟨by rfl, ?_⟩) (by assumption) ?_
      rotate_left 1
      · (intro w' hSw; (try (replace hSw := hSw (by decide); dsimp only at hSw)); go_split_ands; go_simp; try with_reducible rfl)
      simp only [Act.put, List.getElem_toArray, List.getElem_cons_zero, List.getElem_cons_succ, List.setIfInBounds_toArray, List.set_cons_zero, List.set_cons_succ]
      refine WL.take (i := 10) (v := ?_) rfl (by kernel_rfl) (by kernel_rfl) (by kernel_rfl) (by kernel_rfl) (fun _ _ _ h => h) (Or.inl ⟨by rfl, ?_⟩) (by assumption) ?_
      rotate_left 1
      · (intro w' hSw; (try (replace hSw := hSw (by decide); dsimp only at hSw)); go_split_ands; go_simp; try with_reducible rfl)
      simp only [Act.put, List.getElem_toArray, List.getElem_cons_zero, List.getElem_cons_succ, List.setIfInBounds_toArray, List.set_cons_zero, List.set_cons_succ]
      refine WL.take (i := 11) (v := ?_) rfl (by kernel_rfl) (by kernel_rfl) (by kernel_rfl) (by kernel_rfl) (fun _ _ _ h => h) (Or.inl ⟨by rfl, ?_⟩) (by assumption) ?_
      rotate_left 1
      · (intro w' hSw; (try (replace hSw := hSw (by decide); dsimp only at hSw)); go_split_ands; go_simp; try with_reducible rfl)
      simp only [Act.put, List.getElem_toArray, List.getElem_cons_zero, List.getElem_cons_succ, List.setIfInBounds_toArray, List.set_cons_zero, List.set_cons_succ]
      refine WL.take (i := 12) (v := ?_) rfl (by kernel_rfl) (by kernel_rfl) (by kernel_rfl) (by kernel_rfl) (fun _ _ _ h => h) (Or.inl ⟨by rfl, ?_⟩) (by assumption) ?_
      rotate_left 1
      · (intro w' hSw; (try (replace hSw := hSw (by decide); dsimp only at hSw)); go_split_ands; go_simp; try with_reducible rfl)
      simp only [Act.put, List.getElem_toArray, List.getElem_cons_zero, List.getElem_cons_succ, List.setIfInBounds_toArray, List.set_cons_zero, List.set_cons_succ]
      refine WL.take (i := 13) (v := ?_) rfl (by kernel_rfl) (by kernel_rfl) (by kernel_rfl) (by kernel_rfl) (fun _ _ _ h => h) (Or.inl ⟨by rfl, ?_⟩) (by assumption) ?_
      rotate_left 1
      · (intro w' hSw; (try (replace hSw := hSw (by decide); dsimp only at hSw)); go_split_ands; go_simp; try with_reducible rfl)
      simp only [Act.put, List.getElem_toArray, List.getElem_cons_zero, List.getElem_cons_succ, List.setIfInBounds_toArray, List.set_cons_zero, List.set_cons_succ]
      refine WL.done (by kernel_rfl) ?_ _
      have hbx7 : Below w6.heap.size w6 w7.drew := HBX.out.drew
      have HBX7 := Lib.hid hbx7
      clear hbx7
      go_wp2_with fail
      exact ⟨⟨i + 1, by omega, by go_num, HBX7.out⟩, by simp [intOf]; omega⟩
    · have d1 : decide ((i : Int) < (n : Int)) = false := decide_eq_false (by omega)
      go_wp2_with fail
      refine (live_c _).mono ?_
      rintro e w8 ⟨rfl, hb8⟩
      have HB8 := Lib.hid (HB6.out.trans ((HB.out.trans (hb8.mono HB.out.size)).mono HB6.out.size))
      clear hb8
      go_wp2_with fail
      go_ret
      exact ⟨rfl, HB8.out⟩
end Go.Proofs.Ytejmklfhcealnaa.F
