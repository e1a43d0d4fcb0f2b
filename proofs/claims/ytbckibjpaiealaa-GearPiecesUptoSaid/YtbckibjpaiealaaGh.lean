/- The reference's hash, the first chunk's end, the chunks, walked. -/
import Derived.Test.YtbckibjpaiealaaGc
import Derived.Test.YtbckibjpaiealaaBr
import Derived.Lib.QuietBelow
set_option linter.unusedVariables false
set_option linter.unusedSimpArgs false
namespace Go.Proofs.Ytbckibjpaiealaa.F
open Go.RowKit Go.Proofs.YtbckibjpaiealaaW.PrintWords

/-- One byte more. -/
def hstep (tb : List Nat) (h b : Nat) : Nat := (2 * h + tb.getD b 0) % 4294967296
def ghash (tb : List Nat) (p : List Nat) : Nat := p.foldl (hstep tb) 0
theorem hstep_lt (tb : List Nat) (h b : Nat) : hstep tb h b < 4294967296 := Nat.mod_lt _ (by omega)
theorem ghash_lt (tb p : List Nat) : ghash tb p < 4294967296 := by
  unfold ghash
  rcases List.eq_nil_or_concat p with rfl | ⟨q, b, rfl⟩
  · simp
  · rw [List.concat_eq_append, List.foldl_append]; exact hstep_lt _ _ _
theorem ghash_snoc (tb p : List Nat) (b : Nat) : ghash tb (p ++ [b]) = hstep tb (ghash tb p) b := by simp [ghash]

theorem refHash_c (A : Option Addr) (c : Nat) (tb p : List Nat) (w : World) (ht : tb.length = 256) (hb : ∀ x ∈ tb, x < 4294967296) (hr : RN .u8 w A p) (hp : ∀ x ∈ p, x < 256) :
    Calls Try.prog 29 #[.agg (tabA tb), .slice A p.length c] w fun e w' => e = .returned (.int .u32 (ghash tb p : Nat)) ∧ Below w.heap.size w w' := by
  have hm := hr.max
  have hB : Below w.heap.size w (w.alloc (.cells (tabA tb) 27)) := (Below.refl _ _).alloc (Nat.le_refl _) _
  have hr1 := hr.below hB
  have hcells : ∀ b, b < 256 → (w.alloc (.cells (tabA tb) 27)).cell? ⟨w.heap.size, b, none⟩ = some (.int .u32 (tb.getD b 0 : Nat)) := fun b hb => by
    rw [World.cell?_alloc_new, tabA_get _ _ (by omega), List.getD_eq_getElem?_getD, List.getElem?_eq_getElem (by omega)]; rfl
  have HC := Lib.hid hcells
  clear hcells
  obtain ⟨tt, htt⟩ : ∃ tt, tabA tb = tt := ⟨_, rfl⟩
  rw [htt] at hB hr1 HC ⊢
  clear htt
  go_enter Try.func29, Try.ntmps29
  go_wp2_with fail
  go_loop [5, 6] (fun vh vi => ∃ i : Nat, i ≤ p.length ∧ vi = .int .i64 i ∧ vh = .int .u32 (ghash tb (p.take i) : Nat)) (fun _ vi => p.length - (intOf vi).toNat)
  case atStart => exact ⟨0, by omega, rfl, by simp [ghash]⟩
  case round =>
    obtain ⟨i, hi, rfl, rfl⟩ := hrel
    by_cases hlt : i < p.length
    · have hd : decide ((i : Int) < p.length) = true := by simp; omega
      obtain ⟨ad, e, hci⟩ := hr1.at i hlt
      subst e
      obtain ⟨y, hy⟩ : ∃ y, p[i] = y := ⟨_, rfl⟩
      rw [hy] at hci
      have ly : y < 256 := by rw [← hy]; exact hp _ (List.getElem_mem _)
      have HY := Lib.hid hy
      have hcy := HC.out y ly
      have hg := ghash_lt tb (p.take i)
      have hn : ghash tb (p.take (i + 1)) = hstep tb (ghash tb (p.take i)) y := by rw [List.take_succ_eq_append_getElem hlt, hy, ghash_snoc]
      obtain ⟨z, hz⟩ : ∃ z, ghash tb (p.take i) = z := ⟨_, rfl⟩
      obtain ⟨u, hu⟩ : ∃ u, tb.getD y 0 = u := ⟨_, rfl⟩
      rw [hz] at hg hn ⊢
      rw [hu] at hcy
      have HN := Lib.hid hn
      have HU := Lib.hid hu
      clear hy hn hz hu
      go_wp2_with fail
      refine ⟨⟨i + 1, by omega, by go_num, ?_⟩, by simp [intOf]; omega⟩
      rw [HN.out]
      unfold hstep
      rw [HU.out]
      congr 1
      omega
    · have hd : decide ((i : Int) < p.length) = false := by simp; omega
      have e : p.take i = p := List.take_of_length_le (by omega)
      rw [e]
      obtain ⟨z, hz⟩ : ∃ z, ghash tb p = z := ⟨_, rfl⟩
      rw [hz]
      have HZ := Lib.hid hz
      clear hz
      go_wp2_with fail
      go_ret
      exact ⟨by rw [HZ.out]; rfl, hB⟩

/-- Does a chunk end behind k bytes? -/
def endsB (av mx : Nat) (tb p : List Nat) (k : Nat) : Bool := decide (k = mx) || decide (ghash tb (p.take k) * av < 4294967296)
/-- Where the first chunk ends; 0: nowhere. -/
def first (mn av mx : Nat) (tb p : List Nat) : Nat := ((List.range' mn (p.length + 1 - mn)).find? (endsB av mx tb p)).getD 0

section
variable {P : Program} {ops : Array Oper} {C : World → Prop} {Q : Act → Prop} {a : Act} {o : Oper} {rest : List Oper}
/-- A whole array read, in a region that draws its order. -/
theorem wpQuiet_load_row (hw : Region.wanted o (yielded ops a.tmps) = true) (ty : TypeId) (x : Operand) (ho : o.op = .load ty x) (g : Nat) (hx : a.eval x = .pointer (some ⟨g, 0, none⟩)) (t : TypeId) (cs : Array Value) (fr : Nat × Nat) (d : TypeDesc)
    (hg : ∀ w, C w → w.heap[g]? = some (.cells cs t fr)) (hu : P.underlying ty = some d) (hd : (match d with | .struct _ | .array _ _ => true | _ => false) = true) (hi : (P.info? ty).map (·.size) = some cs.size)
    (h : wpQuiet P ops C Q rest (a.put o.dst (.agg cs))) : wpQuiet P ops C Q (o :: rest) a := by
  unfold wpQuiet
  rw [if_pos hw]
  refine ⟨.agg cs, fun w hC => ?_, h⟩
  unfold Oper.quietAt execOp
  simp only [ho, hx, Instr.loadAt, Instr.sureAddr, Sem.run_bind, Sem.run_pure, Result.andThen_ok, run_loadVar_row w g t ty cs fr d (hg w hC) hu hd hi]
  exact ⟨rfl, rfl⟩
end
theorem heap_regrown {w : World} {g : Nat} {ob : Obj} (h : w.heap[g]? = some ob) (d : Nat) (os : Array Obj) : (Sort.grow (redrawn w d) os).heap[g]? = some ob := by
  have hlt : g < w.heap.size := (Array.getElem?_eq_some_iff.1 h).1
  rw [(below_regrown w d os).block g hlt]; exact h

theorem mul_u64 (h av : Nat) (hg : h < 4294967296) (h4 : av ≤ 256) : IntKind.u64.wrap ((h : Int) * (av : Int)) = ((h * av : Nat) : Int) := by
  have hb2 : h * av ≤ 4294967296 * 256 := Nat.mul_le_mul (by omega) h4
  rw [show (h : Int) * (av : Int) = ((h * av : Nat) : Int) by rw [Int.natCast_mul], wrap_u64_nat, Nat.mod_eq_of_lt (by omega)]
theorem id_u64 (h : Nat) (hg : h < 18446744073709551616) : IntKind.u64.wrap (h : Int) = (h : Int) := by rw [wrap_u64_nat, Nat.mod_eq_of_lt hg]
theorem dec_lt32 (g : Nat) : decide ((g : Int) < 4294967296) = decide (g < 4294967296) := decide_eq_decide.2 (by omega)
theorem First_c (A : Option Addr) (c : Nat) (mn av mx : Nat) (tb p : List Nat) (w : World) (ht : tb.length = 256) (hb : ∀ x ∈ tb, x < 4294967296) (hr : RN .u8 w A p) (hp : ∀ x ∈ p, x < 256)
    (h1 : 1 ≤ mn) (h2 : mn ≤ mx) (h3 : mx ≤ 512) (h4 : av ≤ 256) (hc : p.length ≤ c) (hn : p.length ≤ 4611686018427387904) :
    Calls Try.prog 24 #[.agg #[.int .i64 mn, .int .i64 av, .int .i64 mx], .agg (tabA tb), .slice A p.length c] w fun e w' => e = .returned (.int .i64 (first mn av mx tb p : Nat)) ∧ Below w.heap.size w w' := by
  have hm := hr.max
  have hit : (Try.prog.info? 27).map (·.size) = some (tabA tb).size := by rw [tabA_size, ht]; exact infoT
  have hhash := fun (A : Option Addr) (c : Nat) (q : List Nat) (W : World) => refHash_c A c tb q W ht hb
  obtain ⟨tt, htt⟩ : ∃ tt, tabA tb = tt := ⟨_, rfl⟩
  rw [htt] at hit hhash ⊢
  clear htt
  have HI := Lib.hid hit
  have HH := Lib.hid hhash
  clear hit hhash
  go_enter Try.func24, Try.ntmps24
  go_wp2_with fail
  have hB0 : Below w.heap.size w ((w.alloc (.cells #[.int .i64 mn, .int .i64 av, .int .i64 mx] 24)).alloc (.cells tt 27)) := ((Below.refl _ _).alloc (Nat.le_refl _) _).alloc (by simp) _
  obtain ⟨W0, hW0⟩ : ∃ W0, (w.alloc (.cells #[.int .i64 mn, .int .i64 av, .int .i64 mx] 24)).alloc (.cells tt 27) = W0 := ⟨_, rfl⟩
  have hg1 : W0.heap[w.heap.size]? = some (.cells #[.int .i64 mn, .int .i64 av, .int .i64 mx] 24 (0, 0)) := by rw [← hW0]; exact heap_alloc2_old _ _ _
  have hg2 : W0.heap[w.heap.size + 1]? = some (.cells tt 27 (0, 0)) := by rw [← hW0]; exact heap_alloc2_new _ _ _
  rw [hW0] at hB0 ⊢
  clear hW0
  have HG1 := Lib.hid hg1
  have HG2 := Lib.hid hg2
  clear hg1 hg2
  go_loopw [7] (fun vk W => ∃ k : Nat, mn ≤ k ∧ k ≤ p.length + mn ∧ vk = .int .i64 k ∧ ((List.range' k (p.length + 1 - k)).find? (endsB av mx tb p)).getD 0 = first mn av mx tb p ∧ Below W0.heap.size W0 W) (fun vk _ => p.length + mn + 1 - (intOf vk).toNat)
  case atStart => exact ⟨mn, by omega, by omega, rfl, rfl, Below.refl _ _⟩
  case round =>
    obtain ⟨k, hk1, hk2, rfl, hf, hW⟩ := hrel
    have HF := Lib.hid hf
    clear hf
    have hs := hB0.size
    have e1 := (hW.block w.heap.size (Array.getElem?_eq_some_iff.1 HG1.out).1).trans HG1.out
    have e2 := (hW.block (w.heap.size + 1) (Array.getElem?_eq_some_iff.1 HG2.out).1).trans HG2.out
    have E1 := Lib.hid e1
    have E2 := Lib.hid e2
    have hBk : Below w.heap.size w wr := hB0.trans (hW.mono hs)
    by_cases hle : k ≤ p.length
    · have hd : decide ((k : Int) ≤ p.length) = true := by simp; omega
      have hfk : first mn av mx tb p = if endsB av mx tb p k = true then k else ((List.range' (k + 1) (p.length + 1 - (k + 1))).find? (endsB av mx tb p)).getD 0 := by
        rw [← HF.out, show p.length + 1 - k = (p.length + 1 - (k + 1)) + 1 by omega, List.range'_succ, List.find?_cons]
        cases endsB av mx tb p k <;> rfl
      have HFK := Lib.hid hfk
      clear hfk
      by_cases hkm : k = mx
      · subst hkm
        have c2 : ∀ n, (wr.drewN n).cell? ⟨w.heap.size, 2, none⟩ = some (.int .i64 k) := fun n => by
          show wr.cell? _ = _
          rw [cell_of_row _ _ _ _ _ _ E1.out]; rfl
        go_wp2_with fail
        go_quiet (fail)
        go_wp2_with fail
        go_ret
        exact ⟨by rw [HFK.out, if_pos (by simp [endsB])]; rfl, pw_below_drewN hBk _⟩
      · have hne : ((k : Int) == mx) = false := beq_eq_false_iff_ne.2 (by omega)
        have c2 : ∀ d os, (Sort.grow (redrawn wr d) os).cell? ⟨w.heap.size, 2, none⟩ = some (.int .i64 mx) := fun d os => by rw [cell_of_row _ _ _ _ _ _ (heap_regrown E1.out d os)]; rfl
        have c1 : ∀ d os, (Sort.grow (redrawn wr d) os).cell? ⟨w.heap.size, 1, none⟩ = some (.int .i64 av) := fun d os => by rw [cell_of_row _ _ _ _ _ _ (heap_regrown E1.out d os)]; rfl
        have hrk : ∀ d os, RN .u8 (Sort.grow (redrawn wr d) os) A (p.take k) := fun d os => ((hr.below hBk).below (below_regrown _ _ _)).take k hle
        have lk : ∀ x ∈ p.take k, x < 256 := fun x hx => hp x (List.mem_of_mem_take hx)
        have hlk : (p.take k).length = k := by rw [List.length_take]; omega
        have HRK := Lib.hid hrk
        have HLK := Lib.hid hlk
        have HKM := Lib.hid hkm
        clear hrk hlk hkm
        have hg := ghash_lt tb (p.take k)
        obtain ⟨h, hh⟩ : ∃ h, ghash tb (p.take k) = h := ⟨_, rfl⟩
        rw [hh] at hg
        have HHH := Lib.hid hh
        clear hh
        go_wp2_with fail
        refine wp_region_quiet_below (by kernel_rfl) (by kernel_rfl) ?_
        iterate 5 (quiet_step (fail))
        refine wpQuiet_load_row (by rfl) 27 (.tmp 4) rfl (w.heap.size + 1) rfl 27 tt (0, 0) _ (fun w' hw' => by obtain ⟨pr, rfl⟩ := hw'; exact heap_regrown E2.out _ _) Try.underlying27 rfl HI.out ?_
        have hkc : k ≤ c := by omega
        iterate 3 (quiet_step (fail))
        have hcall : ∀ d os, Calls Try.prog 29 #[.agg tt, .slice A k c] (Sort.grow (redrawn wr d) os) fun e w'' => e = .returned (.int .u32 (h : Nat)) ∧ ∃ p : Regrown, w'' = Sort.grow (redrawn wr p.d) p.os := fun d os => by
          have := Calls.regrown_of (HH.out A c (p.take k) _ (HRK.out d os) lk)
          rw [HLK.out, HHH.out] at this
          exact this
        have HCALL := Lib.hid hcall
        clear hcall
        have w1 := id_u64 h (by omega)
        have w2 := id_u64 av (by omega)
        have hmul := mul_u64 h av hg h4
        have hex : endsB av mx tb p k = decide (h * av < 4294967296) := by
          unfold endsB
          rw [HHH.out, decide_eq_false HKM.out, Bool.false_or]
        have HEX := Lib.hid hex
        have hge : ∃ g, h * av = g := ⟨_, rfl⟩
        obtain ⟨g, hg2⟩ := hge
        rw [hg2] at hmul hex
        have HE := Lib.hid hex
        clear hex hg2 HEX
        repeat (quiet_step (exact HCALL.out _ _))
        refine wpQuiet_nil ?_
        intro wq hw'
        have hBq : Below wr.heap.size wr wq := by
          obtain ⟨⟨dq, osq⟩, hw''⟩ := hw'
          rw [hw'']; exact below_regrown wr dq osq
        clear hw' c1 c2 hmul w1 w2
        have hbeta : decide ((g : Int) < 4294967296) = endsB av mx tb p k := by rw [HE.out]; exact dec_lt32 g
        rw [hbeta]
        obtain ⟨beta, hb2⟩ : ∃ beta, endsB av mx tb p k = beta := ⟨_, rfl⟩
        have hfk := HFK.out
        rw [hb2] at hfk ⊢
        have HFE := Lib.hid hfk
        clear hfk hb2 hbeta HFK HE hg
        cases beta
        · go_wp2_with fail
          exact ⟨⟨k + 1, by omega, by omega, by go_num, by rw [HFE.out]; rfl, hW.trans (hBq.mono hW.size)⟩, by simp [intOf]; omega⟩
        · go_wp2_with fail
          go_ret
          exact ⟨by rw [HFE.out]; rfl, hBk.trans (hBq.mono hBk.size)⟩
    · have hd : decide ((k : Int) ≤ p.length) = false := by simp; omega
      have h := HF.out
      rw [show p.length + 1 - k = 0 by omega] at h
      have hfe : first mn av mx tb p = 0 := h.symm
      have HFE := Lib.hid hfe
      clear hfe h
      go_wp2_with fail
      go_ret
      exact ⟨by rw [HFE.out]; rfl, hBk⟩
end Go.Proofs.Ytbckibjpaiealaa.F
