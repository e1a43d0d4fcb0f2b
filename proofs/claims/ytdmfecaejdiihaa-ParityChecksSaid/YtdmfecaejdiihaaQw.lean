/- Shards that are none; rows of bytes, the same or not. -/
import Derived.Test.YtdmfecaejdiihaaQf
import Derived.Lib.Bytes
set_option linter.unusedVariables false
set_option linter.unusedSimpArgs false
namespace Go.Proofs.Ytdmfecaejdiihaa.F
open Go.RowKit Go.Proofs.YtdmfecaejdiihaaW.PrintWords

theorem strN_inj {xs ys : List Nat} (hx : ∀ x ∈ xs, x < 256) (hy : ∀ x ∈ ys, x < 256) (h : strN xs = strN ys) : xs = ys := by
  have e : ∀ l : List Nat, (strN l).data.toList = l.map UInt8.ofNat := fun l => by
    unfold strN
    rw [Go.strOfNums_data, List.map_map]
    rfl
  have h2 : xs.map UInt8.ofNat = ys.map UInt8.ofNat := by rw [← e, ← e, h]
  have h3 := congrArg (List.map UInt8.toNat) h2
  rw [List.map_map, List.map_map] at h3
  have id : ∀ l : List Nat, (∀ x ∈ l, x < 256) → l.map (UInt8.toNat ∘ UInt8.ofNat) = l := fun l hl => by
    conv => rhs; rw [← List.map_id l]
    apply List.map_congr_left
    intro x hx
    have := hl x hx
    simp
    omega
  rw [id xs hx, id ys hy] at h3
  exact h3
theorem BytesEqual_c (A B : Option Addr) (c d : Nat) (xs ys : List Nat) (w : World) (hx : RN .u8 w A xs) (hy : RN .u8 w B ys) (lx : ∀ x ∈ xs, x < 256) (ly : ∀ x ∈ ys, x < 256) :
    Calls Try.prog 27 #[.slice A xs.length c, .slice B ys.length d] w fun e w' => e = .returned (.bool (decide (xs = ys))) ∧ w' = w := by
  have s1 := RN.string (c := c) Try.underlying29 Try.underlying5 Try.underlying9 hx
  have s2 := RN.string (c := d) Try.underlying29 Try.underlying5 Try.underlying9 hy
  by_cases h : xs = ys
  · subst h
    go_enter Try.func27, Try.ntmps27
    go_wp2_with fail
    go_ret
    exact ⟨by simp, rfl⟩
  · have hn : ¬ strN xs = strN ys := fun e => h (strN_inj lx ly e)
    have hn2 : ¬ (strN xs).toList = (strN ys).toList := fun e => hn (by
      unfold strN at e ⊢
      rw [Go.Lib.strOfNums_toList, Go.Lib.strOfNums_toList] at e
      exact congrArg (fun l : List UInt8 => (⟨l.toArray⟩ : ByteArray)) e)
    go_enter Try.func27, Try.ntmps27
    go_wp2_with fail
    go_ret
    exact ⟨by simp [h, hn2], rfl⟩
theorem isnil_c (a : Option Addr) (n c : Nat) (w : World) : Calls Try.prog 24 #[.slice a n c] w fun e w' => e = .returned (.bool a.isNone) ∧ w' = w := by
  have qN : ∀ (w : World) (a : Option Addr) (n c : Nat), Sem.run Try.prog (binOp BinOp.eql 29 (.slice a n c) (.slice none 0 0)) w = Result.ok (.bool a.isNone) w := fun w a n c => Go.Lib.run_eql_slice_nil w 29 5 a n c 0 0 Try.underlying29
  go_enter Try.func24, Try.ntmps24
  go_wp2_with fail
  go_ret
  exact ⟨rfl, rfl⟩
def HasNil (sv : List SD) : Prop := ∃ x ∈ sv, x.1 = none
set_option maxRecDepth 20000 in
set_option maxHeartbeats 4000000 in
theorem IndexNil_c (A : Option Addr) (c : Nat) (sv : List SD) (w : World) (hI : SV w A sv) :
    Calls Try.prog 34 #[.slice A sv.length c, .func (.func 24) #[] #[]] w fun e w' => ∃ r : Int, e = .returned (.int .i64 r) ∧ (0 ≤ r ↔ HasNil sv) ∧ w' = w := by
  have hmx : (sv.length : Int) ≤ 9223372036854775807 := by have := hI.1; omega
  have hg1 : ∀ args W, Sem.run Try.prog (callFunc 24 args) W = .ok (.enter 24 args) W := fun _ _ => by kernel_rfl
  have HI := Lib.hid hI
  clear hI
  go_enter Try.func34, Try.ntmps34
  go_wp2_with fail
  go_loop [8] (fun vi => ∃ i : Nat, i ≤ sv.length ∧ vi = .int .i64 i ∧ ∀ j (h : j < sv.length), j < i → sv[j].1 ≠ none) (fun vi => sv.length - (intOf vi).toNat)
  case atStart => exact ⟨0, by omega, rfl, fun j _ h => by omega⟩
  case round =>
    obtain ⟨i, hi, rfl, hall⟩ := hrel
    have HALL := Lib.hid hall
    clear hall
    by_cases hlt : i < sv.length
    · have hd : decide ((i : Int) < sv.length) = true := decide_eq_true (by omega)
      obtain ⟨ad, e, _, hcc⟩ := HI.out.2 (by omega)
      subst e
      have hci := hcc i hlt
      obtain ⟨⟨xa, xn, xc⟩, hx⟩ : ∃ x, sv[i] = x := ⟨_, rfl⟩
      rw [hx] at hci
      dsimp only at hci
      have i0 : (0 : Int) ≤ (i : Int) := by omega
      have i1 : (i : Int) < (sv.length : Int) := by omega
      have HX := Lib.hid hx
      clear hcc hx
      go_wp2_with fail
      refine (isnil_c _ _ _ _).mono ?_
      rintro e w' ⟨rfl, rfl⟩
      cases xa with
      | none =>
        go_wp2_with fail
        go_ret
        exact ⟨i, rfl, ⟨fun _ => ⟨_, List.getElem_mem hlt, by rw [HX.out]⟩, fun _ => i0⟩, rfl⟩
      | some xad =>
        go_wp2_with fail
        go_round
        case rel => exact ⟨i + 1, by omega, by go_num, fun j hj hji => by
          by_cases e : j = i
          · subst e; rw [HX.out]; simp
          · exact HALL.out j hj (by omega)⟩
        case measure => simp [intOf]; omega
    · have hd : decide ((i : Int) < sv.length) = false := decide_eq_false (by omega)
      go_wp2_with fail
      go_ret
      refine ⟨-1, rfl, ⟨fun h => by omega, fun ⟨x, hx, h⟩ => ?_⟩, rfl⟩
      obtain ⟨j, hj, rfl⟩ := List.getElem_of_mem hx
      exact absurd h (HALL.out j hj (by omega))
end Go.Proofs.Ytdmfecaejdiihaa.F

/- Rows of rows, the same or not; Check, walked. -/
set_option linter.unusedVariables false
set_option linter.unusedSimpArgs false
namespace Go.Proofs.Ytdmfecaejdiihaa.F
open Go.RowKit Go.Proofs.YtdmfecaejdiihaaW.PrintWords

def SameTo (a b : List (List Nat)) (i : Nat) : Prop := ∀ j (h : j < a.length) (h2 : j < b.length), j < i → a[j] = b[j]
theorem SameTo.all {a b : List (List Nat)} (hl : a.length = b.length) (h : SameTo a b a.length) : a = b := List.ext_getElem hl (fun j h1 h2 => h j h1 h2 h1)
theorem SameTo.succ {a b : List (List Nat)} {i : Nat} (h : SameTo a b i) (h1 : i < a.length) (h2 : i < b.length) (e : a[i] = b[i]) : SameTo a b (i + 1) := fun j hj hj2 hji => by
  by_cases hh : j = i
  · subst hh; exact e
  · exact h j hj hj2 (by omega)
def Bt (css : List (List Nat)) : Prop := ∀ cs ∈ css, ∀ y ∈ cs, y < 256
theorem eqbytes_c (A B : Option Addr) (c d : Nat) (xs ys : List Nat) (w : World) (hx : RN .u8 w A xs) (hy : RN .u8 w B ys) (lx : ∀ x ∈ xs, x < 256) (ly : ∀ x ∈ ys, x < 256) :
    Calls Try.prog 26 #[.slice A xs.length c, .slice B ys.length d] w fun e w' => e = .returned (.bool (decide (xs = ys))) ∧ w' = w := by
  go_enter Try.func26, Try.ntmps26
  go_wp2_with fail
  refine (BytesEqual_c A B c d xs ys w hx hy lx ly).mono ?_
  rintro e w' ⟨rfl, rfl⟩
  go_wp2_with fail
  go_ret
  exact ⟨rfl, rfl⟩
set_option maxRecDepth 20000 in
set_option maxHeartbeats 4000000 in
theorem EqualFunc_c (A A' : Option Addr) (c c' : Nat) (a b : List (List Nat)) (W : World) (h1 : RR W A a) (h2 : RR W A' b) (ha : Bt a) (hb : Bt b) :
    Calls Try.prog 25 #[.slice A a.length c, .slice A' b.length c', .func (.func 26) #[] #[]] W fun e w' => e = .returned (.bool (decide (a = b))) ∧ w' = W := by
  have hm := h1.max
  have hm2 := h2.max
  have hg1 : ∀ args W, Sem.run Try.prog (callFunc 26 args) W = .ok (.enter 26 args) W := fun _ _ => by kernel_rfl
  obtain ⟨r, hr⟩ : ∃ r, decide (a = b) = r := ⟨_, rfl⟩
  rw [hr]
  have HR := Lib.hid hr
  have H1 := Lib.hid h1
  have H2 := Lib.hid h2
  have HA := Lib.hid ha
  have HB := Lib.hid hb
  clear hr h1 h2 ha hb
  by_cases hl : a.length = b.length
  · have hne : ((a.length : Int) != b.length) = false := by simp [hl]
    have HLN := Lib.hid hl
    clear hl
    go_enter Try.func25, Try.ntmps25
    go_wp2_with fail
    go_loop [17] (fun vi => ∃ i : Nat, i ≤ a.length ∧ vi = .int .i64 i ∧ SameTo a b i) (fun vi => a.length - (intOf vi).toNat)
    case atStart => exact ⟨0, by omega, rfl, fun j _ _ h => by omega⟩
    case round =>
      obtain ⟨i, hi, rfl, hst⟩ := hrel
      have HST := Lib.hid hst
      clear hst
      by_cases hlt : i < a.length
      · have hd : decide ((i : Int) < a.length) = true := decide_eq_true (by omega)
        have hlb : i < b.length := by have := HLN.out; omega
        obtain ⟨ad, A5, c5, e, q5, l5, r5⟩ := H1.out.at i hlt
        subst e
        obtain ⟨bd, B5, d5, e, p5, m5, s5⟩ := H2.out.at i hlb
        subst e
        have lx := HA.out _ (List.getElem_mem hlt)
        have ly := HB.out _ (List.getElem_mem hlb)
        have hstep := fun e => HST.out.succ hlt hlb e
        have hneq : a[i] ≠ b[i] → a ≠ b := fun h e => h (by subst e; rfl)
        obtain ⟨xs, hxs⟩ : ∃ xs, a[i] = xs := ⟨_, rfl⟩
        obtain ⟨ys, hys⟩ : ∃ ys, b[i] = ys := ⟨_, rfl⟩
        rw [hxs] at q5 l5 r5 lx
        rw [hys] at p5 m5 s5 ly
        rw [hxs, hys] at hstep hneq
        have i0 : (0 : Int) ≤ (i : Int) := by omega
        have i1 : (i : Int) < (a.length : Int) := by omega
        have i2 : (i : Int) < (b.length : Int) := by omega
        have HS := Lib.hid hstep
        have HN := Lib.hid hneq
        have R5 := Lib.hid r5
        have S5 := Lib.hid s5
        have LX := Lib.hid lx
        have LY := Lib.hid ly
        clear hxs hys hstep hneq r5 s5 lx ly l5 m5
        go_wp2_with fail
        refine (eqbytes_c A5 B5 c5 d5 xs ys _ R5.out S5.out LX.out LY.out).mono ?_
        rintro e w' ⟨rfl, rfl⟩
        by_cases hxy : xs = ys
        · have dxy : decide (xs = ys) = true := decide_eq_true hxy
          rw [dxy]
          have HXY := Lib.hid hxy
          clear hxy dxy
          go_wp2_with fail
          go_round
          case rel => exact ⟨i + 1, by omega, by go_num, HS.out HXY.out⟩
          case measure => simp [intOf]; omega
        · have dxy : decide (xs = ys) = false := decide_eq_false hxy
          rw [dxy]
          have hrf : r = false := by rw [← HR.out]; exact decide_eq_false (HN.out hxy)
          clear hxy dxy
          go_wp2_with fail
          go_ret
          exact ⟨by first | rfl | (rw [hrf]; rfl) | rw [hrf], rfl⟩
      · have hd : decide ((i : Int) < a.length) = false := decide_eq_false (by omega)
        obtain rfl : i = a.length := by omega
        have hrt : r = true := by rw [← HR.out]; exact decide_eq_true (SameTo.all HLN.out HST.out)
        go_wp2_with fail
        go_ret
        exact ⟨by first | rfl | (rw [hrt]; rfl) | rw [hrt], rfl⟩
  · have hne : ((a.length : Int) != b.length) = true := by simp; omega
    have hrf : r = false := by rw [← HR.out]; exact decide_eq_false (fun e => hl (by rw [e]))
    go_enter Try.func25, Try.ntmps25
    go_wp2_with fail
    go_ret
    exact ⟨by first | rfl | (rw [hrf]; rfl) | rw [hrf], rfl⟩
theorem ContainsNil_c (A : Option Addr) (c : Nat) (sv : List SD) (w : World) (hI : SV w A sv) :
    Calls Try.prog 23 #[.slice A sv.length c, .func (.func 24) #[] #[]] w fun e w' => ∃ b : Bool, e = .returned (.bool b) ∧ (b = true ↔ HasNil sv) ∧ w' = w := by
  go_enter Try.func23, Try.ntmps23
  go_wp2_with fail
  refine (IndexNil_c A c sv w hI).mono ?_
  rintro e w' ⟨r, rfl, hr, rfl⟩
  have HR := Lib.hid hr
  clear hr
  go_wp2_with fail
  go_ret
  exact ⟨decide (0 ≤ r), rfl, by rw [decide_eq_true_iff]; exact HR.out, rfl⟩
end Go.Proofs.Ytdmfecaejdiihaa.F

/- Check, of the program and of the document. -/
set_option linter.unusedVariables false
set_option linter.unusedSimpArgs false
namespace Go.Proofs.Ytdmfecaejdiihaa.F
open Go.RowKit Go.Proofs.YtdmfecaejdiihaaW.PrintWords

noncomputable def chkB (out : List (List Nat)) (er : Int) (sv : List SD) (css : List (List Nat)) : Bool := by
  classical exact if er = 0 ∧ ¬ HasNil sv then decide (out = css) else false
noncomputable def chkE (er : Int) (sv : List SD) : Int := by
  classical exact if er = 0 then (if HasNil sv then 3 else 0) else er
/-- What a Check answers. -/
def ChkAns (b : Bool) (er : Int) (w : World) (e : Ending) (w' : World) : Prop := e = .returned (.tuple #[.bool b, .int .i64 er]) ∧ Below w.heap.size w w'
set_option maxRecDepth 20000 in
set_option maxHeartbeats 4000000 in
theorem Check_c (A : Option Addr) (c : Nat) (sv : List SD) (css : List (List Nat)) (k : Int) (out : List (List Nat)) (er : Int) (w : World) (hI : SV w A sv) (hcs : Cs w sv css) (hr : RR w A css) (hl : sv.length = css.length) (ho : Bt out) (hb : Bt css)
    (hrep : Calls Try.prog 12 #[.slice A sv.length c, .int .i64 k] w (EncAns out er w)) :
    Calls Try.prog 14 #[.slice A sv.length c, .int .i64 k] w (ChkAns (chkB out er sv css) (chkE er sv) w) := by
  obtain ⟨b, hbb⟩ : ∃ b, chkB out er sv css = b := ⟨_, rfl⟩
  obtain ⟨f, hff⟩ : ∃ f, chkE er sv = f := ⟨_, rfl⟩
  rw [hbb, hff]
  have HBB := Lib.hid hbb
  have HFF := Lib.hid hff
  have HI := Lib.hid hI
  have HR := Lib.hid hr
  have HO := Lib.hid ho
  have HB := Lib.hid hb
  have HL := Lib.hid hl
  have HREP := Lib.hid hrep
  clear hbb hff hI hr ho hb hl hrep
  go_enter Try.func14, Try.ntmps14
  go_wp2_with fail
  refine HREP.out.mono ?_
  rintro e w1 ⟨A1, c1, rfl, rr1, hb1⟩
  have HI1 := Lib.hid (HI.out.below hb1)
  have HR1 := Lib.hid (HR.out.below hb1)
  have R1 := Lib.hid rr1
  have HB1 := Lib.hid hb1
  clear rr1 hb1 HREP
  by_cases h0 : er = 0
  · subst h0
    go_wp2_with fail
    refine (ContainsNil_c A c sv _ HI1.out).mono ?_
    rintro e w2 ⟨bn, rfl, hn, rfl⟩
    cases bn with
    | true =>
      have hnil := hn.1 rfl
      have hb' : b = false := by rw [← HBB.out]; unfold chkB; rw [if_neg (fun h => h.2 hnil)]
      have hf' : f = 3 := by rw [← HFF.out]; unfold chkE; rw [if_pos rfl, if_pos hnil]
      clear hn hnil
      go_wp2_with fail
      go_ret2
      subst hb' hf'
      exact ⟨rfl, HB1.out⟩
    | false =>
      have hnil : ¬ HasNil sv := fun h => by have := hn.2 h; cases this
      have hb' : b = decide (out = css) := by rw [← HBB.out]; unfold chkB; rw [if_pos ⟨rfl, hnil⟩]
      have hf' : f = 0 := by rw [← HFF.out]; unfold chkE; rw [if_pos rfl, if_neg hnil]
      have heq := EqualFunc_c A1 A c1 c out css _ R1.out HR1.out HO.out HB.out
      rw [← HL.out] at heq
      have HEQ := Lib.hid heq
      have HB' := Lib.hid hb'
      clear hn hnil heq hb'
      go_wp2_with fail
      refine HEQ.out.mono ?_
      rintro e w3 ⟨rfl, rfl⟩
      rw [← HB'.out]
      clear HB'
      go_wp2_with fail
      go_ret2
      subst hf'
      exact ⟨rfl, HB1.out⟩
  · have hne : (er != 0) = true := by simp [h0]
    have hb' : b = false := by rw [← HBB.out]; unfold chkB; rw [if_neg (fun h => h0 h.1)]
    have hf' : f = er := by rw [← HFF.out]; unfold chkE; rw [if_neg h0]
    go_wp2_with fail
    go_ret2
    subst hb' hf'
    exact ⟨rfl, HB1.out⟩
set_option maxRecDepth 20000 in
set_option maxHeartbeats 4000000 in
theorem rSame_c (A A' : Option Addr) (c c' : Nat) (a b : List (List Nat)) (W : World) (h1 : RR W A a) (h2 : RR W A' b) (ha : Bt a) (hb : Bt b) :
    Calls Try.prog 11 #[.slice A a.length c, .slice A' b.length c'] W fun e w' => e = .returned (.bool (decide (a = b))) ∧ ∃ n, w' = W.drewN n := by
  have hm := h1.max
  have hm2 := h2.max
  obtain ⟨r, hr⟩ : ∃ r, decide (a = b) = r := ⟨_, rfl⟩
  rw [hr]
  have HR := Lib.hid hr
  have H1 := Lib.hid h1
  have H2 := Lib.hid h2
  have HA := Lib.hid ha
  have HB := Lib.hid hb
  clear hr h1 h2 ha hb
  by_cases hl : a.length = b.length
  · have hne : ((a.length : Int) != b.length) = false := by simp [hl]
    have HLN := Lib.hid hl
    clear hl
    go_enter Try.func11, Try.ntmps11
    go_wp2_with fail
    go_loopw [5] (fun vi W' => ∃ i : Nat, i ≤ a.length ∧ vi = .int .i64 i ∧ SameTo a b i ∧ Drawn0 W W') (fun vi _ => a.length - (intOf vi).toNat)
    case atStart => exact ⟨0, by omega, rfl, fun j _ _ h => by omega, Drawn0.refl _⟩
    case round =>
      obtain ⟨i, hi, rfl, hst, hW⟩ := hrel
      have HST := Lib.hid hst
      have HW := Lib.hid hW
      clear hst hW
      by_cases hlt : i < a.length
      · have hd : decide ((i : Int) < a.length) = true := decide_eq_true (by omega)
        have hlb : i < b.length := by have := HLN.out; omega
        obtain ⟨ad, A5, c5, e, q5, l5, r5⟩ := (H1.out.below HW.out.below).at i hlt
        subst e
        obtain ⟨bd, B5, d5, e, p5, m5, s5⟩ := (H2.out.below HW.out.below).at i hlb
        subst e
        have lx := HA.out _ (List.getElem_mem hlt)
        have ly := HB.out _ (List.getElem_mem hlb)
        have hstep := fun e => HST.out.succ hlt hlb e
        have hneq : a[i] ≠ b[i] → a ≠ b := fun h e => h (by subst e; rfl)
        obtain ⟨xs, hxs⟩ : ∃ xs, a[i] = xs := ⟨_, rfl⟩
        obtain ⟨ys, hys⟩ : ∃ ys, b[i] = ys := ⟨_, rfl⟩
        rw [hxs] at q5 l5 r5 lx
        rw [hys] at p5 m5 s5 ly
        rw [hxs, hys] at hstep hneq
        have i0 : (0 : Int) ≤ (i : Int) := by omega
        have i1 : (i : Int) < (a.length : Int) := by omega
        have i2 : (i : Int) < (b.length : Int) := by omega
        have HS := Lib.hid hstep
        have HN := Lib.hid hneq
        have t1 := fun n => RN.string (c := c5) Try.underlying29 Try.underlying5 Try.underlying9 (r5.drewN n)
        have t2 := fun n => RN.string (c := d5) Try.underlying29 Try.underlying5 Try.underlying9 (s5.drewN n)
        have LX := Lib.hid lx
        have LY := Lib.hid ly
        have q5' : ∀ n, (wr.drewN n).cell? (ad.add i) = some (.slice A5 xs.length c5) := fun _ => q5
        have p5' : ∀ n, (wr.drewN n).cell? (bd.add i) = some (.slice B5 ys.length d5) := fun _ => p5
        clear hxs hys hstep hneq r5 s5 lx ly l5 m5 q5 p5
        by_cases hxy : xs = ys
        · subst hxy
          go_wp2_with fail
          go_quiet (fail)
          go_wp2_with fail
          exact ⟨⟨i + 1, by omega, by go_num, HS.out (by first | rfl | trivial), HW.out.step _⟩, by simp [intOf]; omega⟩
        · have hn : ¬ strN xs = strN ys := fun e => hxy (strN_inj LX.out LY.out e)
          have hn2 : ¬ (strN xs).toList = (strN ys).toList := fun e => hn (by
            unfold strN at e ⊢
            rw [Go.Lib.strOfNums_toList, Go.Lib.strOfNums_toList] at e
            exact congrArg (fun l : List UInt8 => (⟨l.toArray⟩ : ByteArray)) e)
          have hn3 : ((strN xs).toList == (strN ys).toList) = false := by simp [hn2]
          have hrf : r = false := by rw [← HR.out]; exact decide_eq_false (HN.out hxy)
          have HRF := Lib.hid hrf
          clear hrf hxy
          go_wp2_with fail
          go_quiet (fail)
          go_wp2_with fail
          go_ret
          rw [HRF.out]
          exact ⟨rfl, (HW.out.step _).out⟩
      · have hd : decide ((i : Int) < a.length) = false := decide_eq_false (by omega)
        obtain rfl : i = a.length := by omega
        have hrt : r = true := by rw [← HR.out]; exact decide_eq_true (SameTo.all HLN.out HST.out)
        have HRT := Lib.hid hrt
        clear hrt
        go_wp2_with fail
        go_ret
        rw [HRT.out]
        exact ⟨rfl, HW.out.out⟩
  · have hne : ((a.length : Int) != b.length) = true := by simp; omega
    have hrf : r = false := by rw [← HR.out]; exact decide_eq_false (fun e => hl (by rw [e]))
    have HRF := Lib.hid hrf
    clear hrf
    go_enter Try.func11, Try.ntmps11
    go_wp2_with fail
    go_ret
    rw [HRF.out]
    exact ⟨rfl, 0, rfl⟩
end Go.Proofs.Ytdmfecaejdiihaa.F

/- The document's Check, walked. -/
set_option linter.unusedVariables false
set_option linter.unusedSimpArgs false
namespace Go.Proofs.Ytdmfecaejdiihaa.F
open Go.RowKit Go.Proofs.YtdmfecaejdiihaaW.PrintWords

def HeldTo (sv : List SD) (i : Nat) : Prop := ∀ j (h : j < sv.length), j < i → sv[j].1 ≠ none
theorem HeldTo.all {sv : List SD} (h : HeldTo sv sv.length) : ¬ HasNil sv := fun ⟨x, hx, e⟩ => by
  obtain ⟨j, hj, rfl⟩ := List.getElem_of_mem hx
  exact h j hj hj e
set_option maxRecDepth 20000 in
set_option maxHeartbeats 4000000 in
theorem rCheck_c (A : Option Addr) (c : Nat) (sv : List SD) (css : List (List Nat)) (k : Int) (out : List (List Nat)) (er : Int) (w : World) (hI : SV w A sv) (hr : RR w A css) (hl : sv.length = css.length) (ho : Bt out) (hb : Bt css)
    (hrep : Calls Try.prog 13 #[.slice A sv.length c, .int .i64 k] w (EncAns out er w)) :
    Calls Try.prog 15 #[.slice A sv.length c, .int .i64 k] w (ChkAns (chkB out er sv css) (chkE er sv) w) := by
  have hmx : (sv.length : Int) ≤ 9223372036854775807 := by have := hI.1; omega
  have qN : ∀ (w : World) (a : Option Addr) (n c : Nat), Sem.run Try.prog (binOp BinOp.eql 29 (.slice a n c) (.slice none 0 0)) w = Result.ok (.bool a.isNone) w := fun w a n c => Go.Lib.run_eql_slice_nil w 29 5 a n c 0 0 Try.underlying29
  obtain ⟨b, hbb⟩ : ∃ b, chkB out er sv css = b := ⟨_, rfl⟩
  obtain ⟨f, hff⟩ : ∃ f, chkE er sv = f := ⟨_, rfl⟩
  rw [hbb, hff]
  have HBB := Lib.hid hbb
  have HFF := Lib.hid hff
  have HI := Lib.hid hI
  have HR := Lib.hid hr
  have HO := Lib.hid ho
  have HB := Lib.hid hb
  have HL := Lib.hid hl
  have HREP := Lib.hid hrep
  clear hbb hff hI hr ho hb hl hrep
  go_enter Try.func15, Try.ntmps15
  go_wp2_with fail
  refine HREP.out.mono ?_
  rintro e w1 ⟨A1, c1, rfl, rr1, hb1⟩
  have HI1 := Lib.hid (HI.out.below hb1)
  have HR1 := Lib.hid (HR.out.below hb1)
  have R1 := Lib.hid rr1
  have HB1 := Lib.hid hb1
  clear rr1 hb1 HREP
  by_cases h0 : er = 0
  · subst h0
    go_wp2_with fail
    go_loop [8] (fun vi => ∃ i : Nat, i ≤ sv.length ∧ vi = .int .i64 i ∧ HeldTo sv i) (fun vi => sv.length - (intOf vi).toNat)
    case atStart => exact ⟨0, by omega, rfl, fun j _ h => by omega⟩
    case round =>
      obtain ⟨i, hi, rfl, hall⟩ := hrel
      have HALL := Lib.hid hall
      clear hall
      by_cases hlt : i < sv.length
      · have hd : decide ((i : Int) < sv.length) = true := decide_eq_true (by omega)
        obtain ⟨ad, e, _, hcc⟩ := HI1.out.2 (by omega)
        subst e
        have hci := hcc i hlt
        obtain ⟨⟨xa, xn, xc⟩, hx⟩ : ∃ x, sv[i] = x := ⟨_, rfl⟩
        rw [hx] at hci
        dsimp only at hci
        have i0 : (0 : Int) ≤ (i : Int) := by omega
        have i1 : (i : Int) < (sv.length : Int) := by omega
        have HX := Lib.hid hx
        clear hcc hx
        cases xa with
        | none =>
          have hnil : HasNil sv := ⟨_, List.getElem_mem hlt, by rw [HX.out]⟩
          have hb' : b = false := by rw [← HBB.out]; unfold chkB; rw [if_neg (fun h => h.2 hnil)]
          have hf' : f = 3 := by rw [← HFF.out]; unfold chkE; rw [if_pos rfl, if_pos hnil]
          have HB' := Lib.hid hb'
          have HF' := Lib.hid hf'
          clear hnil hb' hf'
          go_wp2_with fail
          go_ret2
          rw [HB'.out, HF'.out]
          exact ⟨rfl, HB1.out⟩
        | some xad =>
          go_wp2_with fail
          go_round
          case rel => exact ⟨i + 1, by omega, by go_num, fun j hj hji => by
            by_cases e : j = i
            · subst e; rw [HX.out]; simp
            · exact HALL.out j hj (by omega)⟩
          case measure => simp [intOf]; omega
      · have hd : decide ((i : Int) < sv.length) = false := decide_eq_false (by omega)
        obtain rfl : i = sv.length := by omega
        have hnil := HALL.out.all
        have hb' : b = decide (out = css) := by rw [← HBB.out]; unfold chkB; rw [if_pos ⟨rfl, hnil⟩]
        have hf' : f = 0 := by rw [← HFF.out]; unfold chkE; rw [if_pos rfl, if_neg hnil]
        have heq := rSame_c A1 A c1 c out css _ R1.out HR1.out HO.out HB.out
        rw [← HL.out] at heq
        have HEQ := Lib.hid heq
        have HB' := Lib.hid hb'
        have HF' := Lib.hid hf'
        clear hnil heq hb' hf'
        go_wp2_with fail
        refine HEQ.out.mono ?_
        rintro e w3 ⟨rfl, n3, rfl⟩
        rw [← HB'.out]
        clear HB'
        go_wp2_with fail
        go_ret2
        rw [HF'.out]
        exact ⟨rfl, pw_below_drewN HB1.out n3⟩
  · have hne : (er != 0) = true := by simp [h0]
    have hb' : b = false := by rw [← HBB.out]; unfold chkB; rw [if_neg (fun h => h0 h.1)]
    have hf' : f = er := by rw [← HFF.out]; unfold chkE; rw [if_neg h0]
    have HB' := Lib.hid hb'
    have HF' := Lib.hid hf'
    clear hb' hf'
    go_wp2_with fail
    go_ret2
    rw [HB'.out, HF'.out]
    exact ⟨rfl, HB1.out⟩
end Go.Proofs.Ytdmfecaejdiihaa.F
