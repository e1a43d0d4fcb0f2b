/- The document adds a chunk. -/
import Derived.Test.YtejmklfhcealnaaK2
import Derived.Test.YtejmklfhcealnaaRl
import Derived.Deep.Cut
import Derived.Deep.CutRange
import Derived.Deep.DrawnRows
import Derived.Laws.BitsAllLaws
import Derived.Test.YtejmklfhcealnaaDg
import Derived.Test.YtejmklfhcealnaaK3
import Derived.Lib.SlBytesConst
set_option linter.unusedVariables false
set_option linter.unusedSimpArgs false
namespace Go.Proofs.Ytejmklfhcealnaa.F
open Go.RowKit Go.Proofs.YtejmklfhcealnaaW.PrintWords
attribute [local go_sem ↓] Go.wp_at_zero Go.wp_at_succ

theorem strN_eq (xs : List Nat) : strN xs = bstr xs := by
  unfold strN bstr strOfNums
  rw [List.map_map]
  rfl
theorem run_append_RV {P : Program} {W : World} (base : Nat) (t ty e : TypeId) (z : Value) (size bytes : Nat) (ht : P.underlying t = some (.slice e)) (hinfo : (P.info? e).map (fun i => (i.zero, i.size, i.bytes)) = some (some z, size, bytes)) (hzs : z.cells.size = size) (hsz : 0 < size)
    (v : Value) (n : Nat) (F : List Value) (A : Option Addr) (m c : Nat) (G : List Value) (HO : W.ownsRow base e size v n F) (HR : RV e W A m G) (hG : G.length = m * size) (hone : ∀ u ∈ G, u.oneCell' = true)
    (hbase : base ≤ W.heap.size) (hl : (n + m) * bytes ≤ 140737488355328) (hl2 : n + m ≤ 140737488355328) :
    ∃ v1 w1, (Builtin.append_ #[t, t] ty #[v, .slice A m c]).run P W = .ok v1 w1 ∧ w1.ownsRow base e size v1 (n + m) (F ++ G) ∧ W.grownBy w1 v.ownBlock := by
  obtain ⟨i0, hi, hz0, hz1, hz2⟩ := info_parts hinfo
  cases A with
  | none =>
    have h0 : m = 0 := by
      rcases Nat.eq_zero_or_pos m with h | h
      · exact h
      · obtain ⟨g, o, e, _⟩ := HR.2 h
        cases e
    subst h0
    have hG0 : G = [] := List.eq_nil_of_length_eq_zero (by simpa using hG)
    subst hG0
    refine ⟨v, W, ?_, by simpa using HO, World.grownBy.refl W _⟩
    rcases HO.2 with ⟨rfl, hn⟩ | ⟨g, cap, cur, rfl, _, _, hnc, _⟩
    · subst hn
      simp [Builtin.append_, run_underlying ht, sizeOf, typeInfo, hi, Builtin.lenOf, Builtin.firstCells]
    · simp [Builtin.append_, run_underlying ht, sizeOf, typeInfo, hi, Builtin.lenOf, Builtin.firstCells, hnc, storeCells]
  | some ad =>
    have hcells : ∀ j u, G[j]? = some u → W.cell? (ad.add j) = some u := by
      intro j u hu
      have hp : 0 < m := by
        rcases Nat.eq_zero_or_pos m with h | h
        · subst h
          have h0 : G = [] := List.eq_nil_of_length_eq_zero (by simpa using hG)
          rw [h0] at hu
          simp at hu
        · exact h
      obtain ⟨g, o, e, _, hc⟩ := HR.2 hp
      cases e
      rw [Addr.add_lit]
      exact hc j u hu
    obtain ⟨v1, w1, hr, h2, h3, _⟩ := run_append_own_at (P := P) W base t ty e i0 z size bytes ht hi hz0 hz1 hz2 hzs hsz v n F HO ad m c G hG hcells hone (by simp only [maxLen]; omega) hl hbase
    exact ⟨v1, w1, hr, h2, h3⟩
section
variable {P : Program} {ops : Array Oper} {rest : List Oper} {o : Oper} {a : Act} {Q : Exit → Act → World → Prop} {K : Act → World → Prop}
theorem wp_append_RV {W : World} (base : Nat) (s x : Operand) (t e : TypeId) (z : Value) (size bytes : Nat)
    (ho : o.op = .call { callee := .builtin .append, args := #[s, x], argTypes := #[t, t] })
    (ht : P.underlying t = some (.slice e)) (hinfo : (P.info? e).map (fun i => (i.zero, i.size, i.bytes)) = some (some z, size, bytes)) (hzs : z.cells.size = size) (hsz : 0 < size)
    (v : Value) (n : Nat) (F : List Value) (A : Option Addr) (m c : Nat) (G : List Value) (hs : a.eval s = v) (hx : a.eval x = .slice A m c) (HO : W.ownsRow base e size v n F) (HR : RV e W A m G) (hG : G.length = m * size) (hone : ∀ u ∈ G, u.oneCell' = true)
    (hbase : base ≤ W.heap.size) (hl : (n + m) * bytes ≤ 140737488355328) (hl2 : n + m ≤ 140737488355328)
    (h : ∀ v1 w1, w1.ownsRow base e size v1 (n + m) (F ++ G) → W.grownBy w1 v.ownBlock → K (a.put o.dst v1) w1) : Oper.wp P o a W K Q := by
  obtain ⟨v1, w1, hr, h1, h2⟩ := run_append_RV base t o.type e z size bytes ht hinfo hzs hsz v n F A m c G HO HR hG hone hbase hl hl2
  exact Go.Lib.wp_append_run W s x _ _ ho _ _ hs hx v1 w1 hr (h v1 w1 h1 h2)
theorem wpList_append_RV {W : World} (base : Nat) (hgd : o.guard = none) (s x : Operand) (t e : TypeId) (z : Value) (size bytes : Nat)
    (ho : o.op = .call { callee := .builtin .append, args := #[s, x], argTypes := #[t, t] })
    (ht : P.underlying t = some (.slice e)) (hinfo : (P.info? e).map (fun i => (i.zero, i.size, i.bytes)) = some (some z, size, bytes)) (hzs : z.cells.size = size) (hsz : 0 < size)
    (v : Value) (n : Nat) (F : List Value) (A : Option Addr) (m c : Nat) (G : List Value) (hs : a.eval s = v) (hx : a.eval x = .slice A m c) (HO : W.ownsRow base e size v n F) (HR : RV e W A m G) (hG : G.length = m * size) (hone : ∀ u ∈ G, u.oneCell' = true)
    (hbase : base ≤ W.heap.size) (hl : (n + m) * bytes ≤ 140737488355328) (hl2 : n + m ≤ 140737488355328)
    (h : ∀ v1 w1, w1.ownsRow base e size v1 (n + m) (F ++ G) → W.grownBy w1 v.ownBlock → wpList P ops Q rest (a.put o.dst v1) w1) : wpList P ops Q (o :: rest) a W :=
  wpList_plain hgd fun _ hK => wp_append_RV base s x t e z size bytes ho ht hinfo hzs hsz v n F A m c G hs hx HO HR hG hone hbase hl hl2 (fun v1 w1 h1 h2 => hK _ _ (h v1 w1 h1 h2))
end
theorem emptyV (t : TypeId) (k : Nat) (w : World) : (w.alloc (.cells #[] t)).ownsRow w.heap.size t k (.slice (some ⟨w.heap.size, 0, none⟩) 0 0) 0 [] := by
  have h := World.ownsRow_lit (base := w.heap.size) (e := t) (size := k) w #[] 0 (by simp) (by simp [maxLen]) (by simp)
  simpa using h
theorem RV.one (t : TypeId) (w : World) (u : Value) : RV t (w.alloc (.cells #[u] t)) (some ⟨w.heap.size, 0, none⟩) 1 [u] :=
  ⟨by omega, fun _ => ⟨w.heap.size, 0, rfl, ⟨_, _, heap_alloc_new w _⟩, fun j x hx => by
    rw [cell_of_row _ _ _ _ _ _ (heap_alloc_new w _), Nat.zero_add]
    simpa using hx⟩⟩
theorem RV.grown {t : TypeId} {W W' : World} {A : Option Addr} {n : Nat} {flat : List Value} {base : Nat} {e : TypeId} {k m : Nat} {v : Value} {F : List Value} (h : RV t W A n flat) (hg : W.grownBy W' v.ownBlock) (ho : W.ownsRow base e k v m F) (hne : 0 < n → ∀ g o, A = some ⟨g, o, none⟩ → v.ownBlock ≠ some g) : RV t W' A n flat := by
  refine ⟨h.1, fun hp => ?_⟩
  obtain ⟨g, o, e, ⟨cs, x, hh⟩, hc⟩ := h.2 hp
  have hb := hg.block g (Array.getElem?_eq_some_iff.1 hh).1 (fun e' => hne hp g o e e'.symm)
  exact ⟨g, o, e, ⟨cs, x, hb.trans hh⟩, fun j u hu => (cell_move (a := ⟨g, o + j, none⟩) hb).trans (hc j u hu)⟩
theorem info_str : (Try.prog.info? 9).map (fun i => (i.zero, i.size, i.bytes)) = some (some (.string ⟨#[]⟩), 1, 16) := by kernel_rfl
def strs (L : List (List Nat)) : List Value := L.map fun p => .string (bstr p)
theorem strs_len (L : List (List Nat)) : (strs L).length = L.length := by simp [strs]
theorem strs_one (L : List (List Nat)) : ∀ u ∈ strs L, u.oneCell' = true := fun u hu => by
  simp only [strs, List.mem_map] at hu
  obtain ⟨p, _, rfl⟩ := hu
  rfl
/-- A row of strings of the call's own, above a world. -/
def StrsAt (L : List (List Nat)) (X wx : World) (v : Value) : Prop := wx.ownsRow X.heap.size 9 1 v L.length (strs L) ∧ Below X.heap.size X wx
theorem addErr_fits (wide : Nat) (L : List (List Nat)) (p : List Nat) (h1 : 1 ≤ p.length) (h2 : p.length ≤ 512) (h3 : L.length < 64) (hw : 1 ≤ wide) :
    (128 + (L ++ [p]).flatten.length + 34 * (L ++ [p]).length ≤ 128 * wide) ↔ ¬ roomN wide L.length L.flatten.length < p.length := by
  have e1 : (L ++ [p]).flatten.length = L.flatten.length + p.length := by simp
  have e2 : (L ++ [p]).length = L.length + 1 := by simp
  rw [e1, e2]
  unfold roomN
  rw [if_neg (by omega)]
  omega
theorem yields_string {P : Program} {ops : Array Oper} {op : Oper} {a : Act} (hw : Region.wanted op (yielded ops a.tmps) = true) (src dst e : TypeId) (x : Operand) (ho : op.op = .convert src dst x) (A : Option Addr) (c : Nat) (p : List Nat) (hx : a.eval x = .slice A p.length c) (S : World → Prop) (hS : ∀ w, S w → RN .u8 w A p)
    (hs : P.underlying src = some (.slice e)) (he : P.underlying e = some (.int .u8)) (hd : P.underlying dst = some .string) : YieldsIf P ops S op (.string (bstr p)) a :=
  .inl ⟨hw, fun w hw' => by
    have h := RN.string (P := P) (c := c) hs he hd (hS w hw')
    unfold execOp
    simp only [ho, hx, Sem.run_bind, h, Result.andThen_ok, strN_eq]
    rfl⟩
/-- What the document's Add leaves behind. -/
def AddAns (E : Int) (wide b id : Nat) (L : List (List Nat)) (p : List Nat) (w : World) (e : Ending) (w' : World) : Prop :=
  (E = 0 → e = .returned (.tuple #[.int .i64 (L.length : Nat), .int .i64 0]) ∧ PY w' b id wide (L ++ [p])) ∧
  (E ≠ 0 → e = .returned (.tuple #[.int .i64 0, .int .i64 E]) ∧ PY w' b id wide L) ∧ Gr (fun k => k = b) w w'
set_option maxRecDepth 20000 in
set_option maxHeartbeats 4000000 in
theorem Add_r (b id wide : Nat) (L : List (List Nat)) (A : Option Addr) (c : Nat) (p : List Nat) (w : World) (h : PY w b id wide L) (hw1 : 1 ≤ wide) (hw2 : wide ≤ 64) (hL : L.length ≤ 64) (hF : L.flatten.length ≤ 32768) (hr : RN .u8 w A p) :
    Calls Try.prog 29 #[.pointer (some ⟨b, 0, none⟩), .slice A p.length c] w (AddAns (addErr wide L.length L.flatten.length p.length) wide b id L p w) := by
  have hpy := h
  have hmx := hr.max
  obtain ⟨AL, cL, h1, h2, h4⟩ := h
  have hb : b < w.heap.size := (Array.getElem?_eq_some_iff.1 h1).1
  have k1 : w.cell? ⟨b, 1, none⟩ = some (.int .i64 (wide : Nat)) := by rw [cell_of_row _ _ _ _ _ _ h1]; rfl
  have k2 : w.cell? ⟨b, 2, none⟩ = some (.slice AL L.length cL) := by rw [cell_of_row _ _ _ _ _ _ h1]; rfl
  have HPY := Lib.hid hpy
  have HG := Lib.hid (Gr.refl (fun k => k = b) w)
  have H1 := Lib.hid h1
  have hae : addErr wide L.length L.flatten.length p.length = if p.length < 1 ∨ 512 < p.length then 2 else if L.length = 64 then 6 else if roomN wide L.length L.flatten.length < p.length then 8 else 0 := rfl
  have hfit := addErr_fits wide L p
  obtain ⟨E, hE⟩ : ∃ E, addErr wide L.length L.flatten.length p.length = E := ⟨_, rfl⟩
  rw [hE] at hae ⊢
  have HE := Lib.hid hE
  have HFIT := Lib.hid hfit
  have HRL := Lib.hid h2
  have HRP := Lib.hid hr
  clear hpy h1 h2 hE hfit hr h4
  by_cases g1 : p.length < 1
  · have d1 : decide ((p.length : Int) < 1) = true := decide_eq_true (by omega)
    rw [if_pos (.inl g1)] at hae
    subst hae
    clear g1
    go_enter Try.func29, Try.ntmps29
    go_wp2_with fail
    go_ret2
    exact ⟨fun h => absurd h (by decide), fun _ => ⟨rfl, HPY.out⟩, HG.out⟩
  have d1 : decide ((p.length : Int) < 1) = false := decide_eq_false (by omega)
  by_cases g2 : 512 < p.length
  · have d2 : decide ((512 : Int) < (p.length : Int)) = true := decide_eq_true (by omega)
    rw [if_pos (.inr g2)] at hae
    subst hae
    clear g1 g2
    go_enter Try.func29, Try.ntmps29
    go_wp2_with fail
    go_ret2
    exact ⟨fun h => absurd h (by decide), fun _ => ⟨rfl, HPY.out⟩, HG.out⟩
  have d2 : decide ((512 : Int) < (p.length : Int)) = false := decide_eq_false (by omega)
  rw [if_neg (by omega)] at hae
  by_cases g3 : L.length = 64
  · have d3 : decide ((64 : Int) ≤ (L.length : Int)) = true := decide_eq_true (by omega)
    rw [if_pos g3] at hae
    subst hae
    clear g1 g2 g3
    go_enter Try.func29, Try.ntmps29
    go_wp2_with fail
    go_ret2
    exact ⟨fun h => absurd h (by decide), fun _ => ⟨rfl, HPY.out⟩, HG.out⟩
  have d3 : decide ((64 : Int) ≤ (L.length : Int)) = false := decide_eq_false (by omega)
  have d3' : decide (64 ≤ L.length) = false := decide_eq_false (by omega)
  rw [if_neg g3] at hae
  have hfit := HFIT.out (by omega) (by omega) (by omega) hw1
  have hLp : (L ++ [p]).length ≤ 100 := by simp; omega
  have hFp : (L ++ [p]).flatten.length ≤ 100000 := by
    have e1 : (L ++ [p]).flatten.length = L.flatten.length + p.length := by rw [List.flatten_append, List.length_append]; simp
    rw [e1]; omega
  have HAE := Lib.hid hae
  have HFI := Lib.hid hfit
  have HLP := Lib.hid hLp
  have HFP := Lib.hid hFp
  have HTB : Hid (∀ w' : World, Below w.heap.size w w' → w'.cell? ⟨b, 2, none⟩ = some (.slice AL L.length cL) ∧ RN .u8 w' A p) := Lib.hid (fun w' h => ⟨(h.cell (p := ⟨b, 2, none⟩) hb).trans k2, HRP.out.below h⟩)
  clear hae hfit hLp hFp g1 g2 g3 HFIT hF
  go_enter Try.func29, Try.ntmps29
  go_upto_region 5 with fail
  go_cut [6] from 21 to 30 (fun s6 wy => StrsAt (L ++ [p]) w wy s6)
  case first =>
      refine wp_region_late [4, 7] (fun w' => w'.cell? ⟨b, 2, none⟩ = some (.slice AL L.length cL) ∧ RN .u8 w' A p) (by kernel_rfl) (HTB.out _ ((Below.refl _ _).drew)) (fun hT => ?_)
      have HB' : Below w.heap.size w w.drew := (Below.refl _ _).drew
      have HT' := HTB.out _ HB'
      generalize w.drew = x0 at HB' HT' hT ⊢
      refine WL.take (i := 1) (v := ?_) rfl (by kernel_rfl) (by kernel_rfl) (by kernel_rfl) (by kernel_rfl) (fun _ _ _ h => h) (Or.inl ⟨by rfl, ?_⟩) (by assumption) ?_
      rotate_left 1
      · (intro w' hSw; (try (replace hSw := hSw (by decide); dsimp only at hSw)); go_split_ands; go_simp; try with_reducible rfl)
      simp only [Act.put, List.getElem_toArray, List.getElem_cons_zero, List.getElem_cons_succ, List.setIfInBounds_toArray, List.set_cons_zero, List.set_cons_succ]
      refine WL.take (i := 2) (v := ?_) rfl (by kernel_rfl) (by kernel_rfl) (by kernel_rfl) (by kernel_rfl) (fun _ _ _ h => h) (Or.inl ⟨by rfl, ?_⟩) (by assumption) ?_
      rotate_left 1
      · (intro w' hSw; (try (replace hSw := hSw (by decide); dsimp only at hSw)); go_split_ands; go_simp; try with_reducible rfl)
      simp only [Act.put, List.getElem_toArray, List.getElem_cons_zero, List.getElem_cons_succ, List.setIfInBounds_toArray, List.set_cons_zero, List.set_cons_succ]
      refine WL.take (i := 3) (v := ?_) rfl (by kernel_rfl) (by kernel_rfl) (by kernel_rfl) (by kernel_rfl) (fun _ _ _ h => h) (Or.inl ⟨by rfl, ?_⟩) (by assumption) ?_
      rotate_left 1
      · (intro w' hSw; (try (replace hSw := hSw (by decide); dsimp only at hSw)); go_split_ands; go_simp; try with_reducible rfl)
      simp only [Act.put, List.getElem_toArray, List.getElem_cons_zero, List.getElem_cons_succ, List.setIfInBounds_toArray, List.set_cons_zero, List.set_cons_succ]
      refine WL.take (i := 4) (v := ?_) rfl (by kernel_rfl) (by kernel_rfl) (by kernel_rfl) (by kernel_rfl) (fun _ _ _ h => h) (Or.inl ⟨by rfl, ?_⟩) (by assumption) ?_
      rotate_left 1
      · (intro w' hSw; (try (replace hSw := hSw (by decide); dsimp only at hSw)); go_split_ands; go_simp; try with_reducible rfl)
      simp only [Act.put, List.getElem_toArray, List.getElem_cons_zero, List.getElem_cons_succ, List.setIfInBounds_toArray, List.set_cons_zero, List.set_cons_succ]
      refine WL.take (i := 6) (v := ?_) rfl (by kernel_rfl) (by kernel_rfl) (by kernel_rfl) (by kernel_rfl) (fun _ _ _ h => h) (Or.inl ⟨by rfl, ?_⟩) (by assumption) ?_
      rotate_left 1
      · (intro w' hSw; (try (replace hSw := hSw (by decide); dsimp only at hSw)); go_split_ands; go_simp; try with_reducible rfl)
      simp only [Act.put, List.getElem_toArray, List.getElem_cons_zero, List.getElem_cons_succ, List.setIfInBounds_toArray, List.set_cons_zero, List.set_cons_succ]
      refine WL.take (i := 7) (v := .string (bstr p)) rfl (by kernel_rfl) (by kernel_rfl) (by kernel_rfl) (by kernel_rfl) (fun _ _ _ h => h) (yields_string (by rfl) 27 9 5 (.tmp 27) (by rfl) A c p (by rfl) _ (fun w' h => (h (by decide)).2) Try.underlying27 Try.underlying5 Try.underlying9) hT ?_
      simp only [Act.put, List.getElem_toArray, List.getElem_cons_zero, List.getElem_cons_succ, List.setIfInBounds_toArray, List.set_cons_zero, List.set_cons_succ]
      clear hT
      refine WL.two (i := 0) (j := 8) (by kernel_rfl) rfl rfl (fun K hK => ?_) (fun K hK => ?_)
      · go_simp
        have hE := own_weaken (emptyV 9 1 x0) HB'.size
        have hb' := HB'.alloc (HB'.size) (.cells #[] 9)
        have hlt := heap_alloc_new x0 (.cells #[] 9)
        refine hK.out _ _ (fun _ => HTB.out _ hb') ?_
        clear hK K HB' HT'
        generalize x0.alloc (.cells #[] 9) = x1 at hb' hE hlt ⊢
        generalize x0.heap.size = g0 at hE hlt ⊢
        have HB' := hb'
        clear hb'
        have HT' := HTB.out _ HB'
        refine WL.two (i := 5) (j := 8) (by kernel_rfl) rfl rfl (fun K hK => ?_) (fun K hK => ?_)
        · rw [if_pos (by rfl)]
          refine wp_append_RV w.heap.size (.tmp 21) (.tmp 25) 44 9 (.string ⟨#[]⟩) 1 16 (by rfl) Try.underlying44 info_str (by rfl) (by decide) _ 0 [] AL L.length cL (strs L) (by rfl) (by rfl) hE (HRL.out.below HB') (by rw [strs_len]; omega) (strs_one L) HB'.size (by omega) (by omega) ?_
          intro v5 x2 hE' hgr
          have hb' := HB'.grown hgr HB'.size (fun j ej => own_base hE j ej)
          rw [Nat.zero_add, List.nil_append] at hE'
          obtain ⟨A5, c5, e5, hc5, _⟩ := RV.ofOwn hE'
          subst e5
          go_simp
          refine hK.out _ _ (fun _ => HTB.out _ hb') ?_
          clear hK K HB' HT' hE hgr hlt
          have hE := hE'
          clear hE'
          have HB' := hb'
          clear hb'
          have HT' := HTB.out _ HB'
          refine WL.one (i := 8) (by kernel_rfl) rfl (fun K hK => ?_)
          go_simp
          have hb' := HB'.alloc (HB'.size) (.cells #[.string (bstr p)] 9)
          have hp := RV.one 9 x2 (.string (bstr p))
          replace hE := pw_own_below hE ((Below.refl x2.heap.size x2).alloc (Nat.le_refl _) (.cells #[.string (bstr p)] 9))
          refine hK.out _ _ (fun _ => HTB.out _ hb') ?_
          clear hK K HB' HT'
          generalize x2.alloc (.cells #[.string (bstr p)] 9) = x3 at hb' hp hE ⊢
          generalize x2.heap.size = gp at hp ⊢
          have HB' := hb'
          clear hb'
          have HT' := HTB.out _ HB'
          refine WL.late (i := 9) (by kernel_rfl) rfl (by kernel_rfl) (fun K hK => ?_)
          rw [if_pos (by rfl)]
          refine wp_append_RV w.heap.size (.tmp 26) (.tmp 29) 44 9 (.string ⟨#[]⟩) 1 16 (by rfl) Try.underlying44 info_str (by rfl) (by decide) _ L.length (strs L) (some ⟨gp, 0, none⟩) 1 1 [.string (bstr p)] (by rfl) (by rfl) hE hp (by simp) (by simp [Value.oneCell']) HB'.size (by omega) (by omega) ?_
          intro v9 y9 hE9 hg9
          have hb9 := HB'.grown hg9 HB'.size (fun j ej => own_base hE j ej)
          clear HB' HT' hE hp hg9
          go_simp
          refine hK.out _ _ ?_
          clear hK K
          refine WL.late (i := 10) (by kernel_rfl) rfl (by kernel_rfl) (fun K hK => ?_)
          go_simp
          refine hK.out _ _ ?_
          clear hK K
          refine WL.done (by kernel_rfl) ?_ _
          go_wp2_with fail
          go_meet
          exact ⟨by rw [List.length_append]; unfold strs; rw [List.map_append]; exact hE9, hb9⟩
        · go_simp
          have hb' := HB'.alloc (HB'.size) (.cells #[.string (bstr p)] 9)
          have hp := RV.one 9 x1 (.string (bstr p))
          replace hE := pw_own_below hE ((Below.refl x1.heap.size x1).alloc (Nat.le_refl _) (.cells #[.string (bstr p)] 9))
          have hpne : x1.heap.size ≠ g0 := fun e => by have := (Array.getElem?_eq_some_iff.1 hlt).1; omega
          refine hK.out _ _ (fun _ => HTB.out _ hb') ?_
          clear hK K HB' HT'
          generalize x1.alloc (.cells #[.string (bstr p)] 9) = x4 at hb' hp hE ⊢
          generalize x1.heap.size = gp at hp hpne ⊢
          have HB' := hb'
          clear hb'
          have HT' := HTB.out _ HB'
          refine WL.one (i := 5) (by kernel_rfl) rfl (fun K hK => ?_)
          rw [if_pos (by rfl)]
          refine wp_append_RV w.heap.size (.tmp 21) (.tmp 25) 44 9 (.string ⟨#[]⟩) 1 16 (by rfl) Try.underlying44 info_str (by rfl) (by decide) _ 0 [] AL L.length cL (strs L) (by rfl) (by rfl) hE (HRL.out.below HB') (by rw [strs_len]; omega) (strs_one L) HB'.size (by omega) (by omega) ?_
          intro v5 x5 hE' hgr
          have hb' := HB'.grown hgr HB'.size (fun j ej => own_base hE j ej)
          replace hp := hp.grown hgr hE (fun _ g o e e' => by cases e; injection e' with e'; exact hpne e'.symm)
          rw [Nat.zero_add, List.nil_append] at hE'
          obtain ⟨A5, c5, e5, hc5, _⟩ := RV.ofOwn hE'
          subst e5
          go_simp
          refine hK.out _ _ (fun _ => HTB.out _ hb') ?_
          clear hK K HB' HT' hE hgr hpne
          have hE := hE'
          clear hE'
          have HB' := hb'
          clear hb'
          have HT' := HTB.out _ HB'
          refine WL.late (i := 9) (by kernel_rfl) rfl (by kernel_rfl) (fun K hK => ?_)
          rw [if_pos (by rfl)]
          refine wp_append_RV w.heap.size (.tmp 26) (.tmp 29) 44 9 (.string ⟨#[]⟩) 1 16 (by rfl) Try.underlying44 info_str (by rfl) (by decide) _ L.length (strs L) (some ⟨gp, 0, none⟩) 1 1 [.string (bstr p)] (by rfl) (by rfl) hE hp (by simp) (by simp [Value.oneCell']) HB'.size (by omega) (by omega) ?_
          intro v9 y9 hE9 hg9
          have hb9 := HB'.grown hg9 HB'.size (fun j ej => own_base hE j ej)
          clear HB' HT' hE hp hg9
          go_simp
          refine hK.out _ _ ?_
          clear hK K
          refine WL.late (i := 10) (by kernel_rfl) rfl (by kernel_rfl) (fun K hK => ?_)
          go_simp
          refine hK.out _ _ ?_
          clear hK K
          refine WL.done (by kernel_rfl) ?_ _
          go_wp2_with fail
          go_meet
          exact ⟨by rw [List.length_append]; unfold strs; rw [List.map_append]; exact hE9, hb9⟩
      · go_simp
        have hb' := HB'.alloc (HB'.size) (.cells #[.string (bstr p)] 9)
        have hp := RV.one 9 x0 (.string (bstr p))
        have hgp : x0.heap.size < (x0.alloc (.cells #[.string (bstr p)] 9)).heap.size := by simp
        refine hK.out _ _ (fun _ => HTB.out _ hb') ?_
        clear hK K HB' HT'
        generalize x0.alloc (.cells #[.string (bstr p)] 9) = x6 at hb' hp hgp ⊢
        generalize x0.heap.size = gp at hp hgp ⊢
        have HB' := hb'
        clear hb'
        have HT' := HTB.out _ HB'
        refine WL.one (i := 0) (by kernel_rfl) rfl (fun K hK => ?_)
        go_simp
        have hE := own_weaken (emptyV 9 1 x6) HB'.size
        have hb' := HB'.alloc (HB'.size) (.cells #[] 9)
        replace hp := hp.below ((Below.refl x6.heap.size x6).alloc (Nat.le_refl _) (.cells #[] 9))
        have hpne : gp ≠ x6.heap.size := by omega
        have hlt := heap_alloc_new x6 (.cells #[] 9)
        refine hK.out _ _ (fun _ => HTB.out _ hb') ?_
        clear hK K HB' HT'
        clear hgp
        generalize x6.alloc (.cells #[] 9) = x7 at hb' hE hlt hp ⊢
        generalize x6.heap.size = g0 at hE hlt hpne ⊢
        have HB' := hb'
        clear hb'
        have HT' := HTB.out _ HB'
        refine WL.one (i := 5) (by kernel_rfl) rfl (fun K hK => ?_)
        rw [if_pos (by rfl)]
        refine wp_append_RV w.heap.size (.tmp 21) (.tmp 25) 44 9 (.string ⟨#[]⟩) 1 16 (by rfl) Try.underlying44 info_str (by rfl) (by decide) _ 0 [] AL L.length cL (strs L) (by rfl) (by rfl) hE (HRL.out.below HB') (by rw [strs_len]; omega) (strs_one L) HB'.size (by omega) (by omega) ?_
        intro v5 x8 hE' hgr
        have hb' := HB'.grown hgr HB'.size (fun j ej => own_base hE j ej)
        replace hp := hp.grown hgr hE (fun _ g o e e' => by cases e; injection e' with e'; exact hpne e'.symm)
        rw [Nat.zero_add, List.nil_append] at hE'
        obtain ⟨A5, c5, e5, hc5, _⟩ := RV.ofOwn hE'
        subst e5
        go_simp
        refine hK.out _ _ (fun _ => HTB.out _ hb') ?_
        clear hK K HB' HT' hE hgr hpne
        have hE := hE'
        clear hE'
        have HB' := hb'
        clear hb'
        have HT' := HTB.out _ HB'
        refine WL.late (i := 9) (by kernel_rfl) rfl (by kernel_rfl) (fun K hK => ?_)
        rw [if_pos (by rfl)]
        refine wp_append_RV w.heap.size (.tmp 26) (.tmp 29) 44 9 (.string ⟨#[]⟩) 1 16 (by rfl) Try.underlying44 info_str (by rfl) (by decide) _ L.length (strs L) (some ⟨gp, 0, none⟩) 1 1 [.string (bstr p)] (by rfl) (by rfl) hE hp (by simp) (by simp [Value.oneCell']) HB'.size (by omega) (by omega) ?_
        intro v9 y9 hE9 hg9
        have hb9 := HB'.grown hg9 HB'.size (fun j ej => own_base hE j ej)
        clear HB' HT' hE hp hg9
        go_simp
        refine hK.out _ _ ?_
        clear hK K
        refine WL.late (i := 10) (by kernel_rfl) rfl (by kernel_rfl) (fun K hK => ?_)
        go_simp
        refine hK.out _ _ ?_
        clear hK K
        refine WL.done (by kernel_rfl) ?_ _
        go_wp2_with fail
        go_meet
        exact ⟨by rw [List.length_append]; unfold strs; rw [List.map_append]; exact hE9, hb9⟩
  case rest =>
    obtain ⟨ho6, hb6⟩ := hcut
    obtain ⟨A6, c6, e6, hc6, hr6, _⟩ := RV.ofOwn ho6
    subst e6
    have h16 := (hb6.block b hb).trans H1.out
    have q1 : wc.cell? ⟨b, 1, none⟩ = some (.int .i64 (wide : Nat)) := by rw [cell_of_row _ _ _ _ _ _ h16]; rfl
    have q2 : wc.cell? ⟨b, 2, none⟩ = some (.slice AL L.length cL) := by rw [cell_of_row _ _ _ _ _ _ h16]; rfl
    have q3 : wc.frozen? ⟨b, 2, none⟩ = false := frozen_of_row _ _ _ _ _ h16
    have hfc := Fits_c A6 c6 wide (L ++ [p]) wc hr6 (by omega) HLP.out HFP.out
    have hl1 : (L ++ [p]).length = L.length + 1 := by simp
    have hset := heap_setCell_same wc b 2 _ _ (.slice A6 (L ++ [p]).length c6) h16
    have hst2 := RV.setOther (j := 2) (u := .slice A6 (L ++ [p]).length c6) hr6 h16 (by decide)
    obtain ⟨M, hM⟩ : ∃ M, (L ++ [p]).length = M := ⟨_, rfl⟩
    have HAE2 := HAE.out
    have hfi := HFI.out
    have HPY6 := Lib.hid (HPY.out.below hb6)
    have HG6 := Lib.hid (Gr.of_below (fun k => k = b) hb6)
    rw [hM] at hfc hl1 hset hst2 hc6 hfi ⊢
    have hPY : PY (wc.setCell ⟨b, 2, none⟩ (.slice A6 M c6)) b id wide (L ++ [p]) := ⟨A6, c6, by rw [hM]; exact hset, by rw [hM]; exact hst2, by rw [hM]; exact hc6⟩
    have HPYN := Lib.hid hPY
    have HGN := Lib.hid (HG6.out.trans (Gr.setCell (S := fun k => k = b) wc ⟨b, 2, none⟩ (.slice A6 M c6) rfl) (fun _ _ h => h))
    have HL1 := Lib.hid hl1
    clear hM hr6 ho6 hb6 h16 hl1 hset hst2 hPY k1 k2
    by_cases hq : roomN wide L.length L.flatten.length < p.length
    · have hd : decide (128 + (L ++ [p]).flatten.length + 34 * M ≤ 128 * wide) = false := decide_eq_false (fun h => hfi.1 h hq)
      rw [hd] at hfc
      rw [if_pos hq] at HAE2
      subst HAE2
      have HFC := Lib.hid hfc
      clear hd hfc hq hfi
      go_wp2_with fail
      refine HFC.out.mono ?_
      rintro e w7 ⟨rfl, hwe⟩
      subst hwe
      go_wp2_with fail
      go_ret2
      exact ⟨fun h => absurd h (by decide), fun _ => ⟨rfl, HPY6.out⟩, HG6.out⟩
    · have hd : decide (128 + (L ++ [p]).flatten.length + 34 * M ≤ 128 * wide) = true := decide_eq_true (hfi.2 hq)
      rw [hd] at hfc
      rw [if_neg hq] at HAE2
      subst HAE2
      have HFC := Lib.hid hfc
      have hm1 : (M : Int) ≤ 65 := by have := HL1.out; omega
      clear hd hfc hq hfi
      go_wp2_with fail
      refine HFC.out.mono ?_
      rintro e w7 ⟨rfl, hwe⟩
      subst hwe
      go_wp2_with fail
      go_ret2
      refine ⟨fun _ => ⟨?_, HPYN.out⟩, fun h => absurd rfl h, HGN.out⟩
      have := HL1.out
      have hm : (M : Int) - 1 = (L.length : Nat) := by omega
      rw [← hm]
      rfl
end Go.Proofs.Ytejmklfhcealnaa.F

/- Both packers, with chunks. -/
set_option linter.unusedVariables false
set_option linter.unusedSimpArgs false
namespace Go.Proofs.Ytejmklfhcealnaa.F
open Go.RowKit Go.Proofs.YtejmklfhcealnaaW.PrintWords

theorem set_lt {zs : List Nat} (h : ∀ x ∈ zs, x < 256) (j : Nat) {y : Nat} (hy : y < 256) : ∀ x ∈ zs.set j y, x < 256 := fun x hx => by
  rcases List.mem_or_eq_of_mem_set hx with h1 | h1
  · exact h x h1
  · omega
theorem OwnN.head {k : IntKind} {e : TypeId} {W : World} {base : Nat} {A : Option Addr} {n c : Nat} {xs : List Nat} (h : OwnN k e W base (.slice A n c) xs) (hx : 0 < xs.length) : ∃ g, A = some ⟨g, 0, none⟩ ∧ n = xs.length ∧ base ≤ g ∧ g < W.heap.size := by
  rcases h.2 with ⟨_, h0⟩ | ⟨g, cap, cur, e2, hb, hh, hc, _⟩
  · omega
  · injection e2 with e3 e4 e5
    exact ⟨g, e3, e4, hb, (Array.getElem?_eq_some_iff.1 hh).1⟩
/-- The chunks fit into so many sectors. -/
def Fit (wide : Nat) (L : List (List Nat)) : Prop := 128 + L.flatten.length + 34 * L.length ≤ 128 * wide
theorem Chunks.snoc {wide : Nat} {L : List (List Nat)} {p : List Nat} (h : Chunks L) (hp : ∀ x ∈ p, x < 256) (hok : addErr wide L.length L.flatten.length p.length = 0) (hw : 1 ≤ wide) : Chunks (L ++ [p]) ∧ Fit wide (L ++ [p]) := by
  unfold addErr at hok
  split at hok
  · simp at hok
  · rename_i h1
    split at hok
    · simp at hok
    · rename_i h2
      split at hok
      · simp at hok
      · rename_i h3
        have h4 := h.1
        refine ⟨⟨by simp; omega, fun q hq => ?_⟩, (addErr_fits wide L p (by omega) (by omega) (by omega) hw).2 h3⟩
        rcases List.mem_append.1 hq with hq | hq
        · exact h.2 q hq
        · rw [List.mem_singleton] at hq
          subst hq
          exact ⟨by omega, by omega, hp⟩
section
variable {sum : List Nat → List Nat} {W W' : World} {b id wide : Nat} {L : List (List Nat)} {S S' : Nat → Prop}
theorem PK.d (h : PK sum W b id wide L) : PKd sum (fun g => g < W.heap.size) W b id wide L := by
  obtain ⟨A, c, A2, c2, F, hF, h1, h2, h3, h4, h5⟩ := h
  refine ⟨A, c, A2, c2, F, hF, h1, h2, h3, h4, h5, fun hp => ?_⟩
  obtain ⟨g, o, e, ⟨cs, x, hh⟩, _⟩ := h3.2 hp
  exact ⟨g, o, e, (Array.getElem?_eq_some_iff.1 hh).1⟩
theorem PKd.pk (h : PKd sum S W b id wide L) : PK sum W b id wide L := by
  obtain ⟨A, c, A2, c2, F, hF, h1, h2, h3, h4, h5, _⟩ := h
  exact ⟨A, c, A2, c2, F, hF, h1, h2, h3, h4, h5⟩
theorem PKd.imp (h : PKd sum S W b id wide L) (hs : ∀ g, S g → S' g) : PKd sum S' W b id wide L := by
  obtain ⟨A, c, A2, c2, F, hF, h1, h2, h3, h4, h5, h6⟩ := h
  exact ⟨A, c, A2, c2, F, hF, h1, h2, h3, h4, h5, fun hp => by obtain ⟨g, o, e, h⟩ := h6 hp; exact ⟨g, o, e, hs g h⟩⟩
theorem PKd.move (h : PKd sum S W b id wide L) (hm : ∀ (g : Nat) (cs : Array Value) (t : Nat) (x : Nat × Nat), (t = 38 ∨ t = 5 ∧ S g ∨ t = 67 ∧ g = b) → W.heap[g]? = some (Obj.cells cs t x) → W'.heap[g]? = W.heap[g]?) : PKd sum S W' b id wide L := by
  obtain ⟨A, c, A2, c2, F, hF, h1, h2, h3, h4, h5, h6⟩ := h
  refine ⟨A, c, A2, c2, F, hF, (hm _ _ _ _ (.inr (.inr ⟨rfl, rfl⟩)) h1).trans h1, h2.move (fun g cs x hh => hm g cs _ x (.inl rfl) hh), ⟨h3.1, fun hp => ?_⟩, h4, h5, h6⟩
  obtain ⟨g, o, e, ⟨cs, x, hh⟩, hc⟩ := h3.2 hp
  obtain ⟨g', o', e', hS⟩ := h6 hp
  rw [e] at e'
  cases e'
  have hg := hm g cs _ x (.inr (.inl ⟨rfl, hS⟩)) hh
  exact ⟨g, o, e, ⟨cs, x, hg.trans hh⟩, fun j u hu => (cell_move (a := ⟨g, o + j, none⟩) hg).trans (hc j u hu)⟩
theorem PKd.below (h : PKd sum S W b id wide L) (hb : Below W.heap.size W W') : PKd sum S W' b id wide L := h.move (fun g cs t x _ hh => hb.block g (Array.getElem?_eq_some_iff.1 hh).1)
/-- Another row of bytes is changed. -/
theorem PKd.bytes {v : Value} (h : PKd sum S W b id wide L) (hg : Gr (fun k => v.ownBlock = some k) W W') (hv : ∀ k, v.ownBlock = some k → (∃ cs z, W.heap[k]? = some (.cells cs 5 z)) ∧ ¬ S k) : PKd sum S W' b id wide L :=
  h.move (fun g cs t x ht hh => hg.block g (Array.getElem?_eq_some_iff.1 hh).1 (fun e => by
    obtain ⟨⟨cs', z, h1⟩, h2⟩ := hv g e
    rw [h1] at hh
    injection hh with hh
    injection hh with _ h3 _
    subst h3
    rcases ht with ht | ⟨_, ht⟩ | ⟨ht, _⟩
    · exact absurd ht (by decide)
    · exact h2 ht
    · exact absurd ht (by decide)))
/-- Another packer's block is changed. -/
theorem PKd.other {b' : Nat} {cs : Array Value} (h : PKd sum S W b id wide L) (hb : W.heap[b']? = some (.cells cs 46 (0, 0))) (hg : Gr (fun k => k = b') W W') : PKd sum S W' b id wide L :=
  h.move (fun g cs' t x ht hh => hg.block g (Array.getElem?_eq_some_iff.1 hh).1 (fun e => by
    subst e
    rw [hb] at hh
    injection hh with hh
    injection hh with _ h3 _
    subst h3
    rcases ht with ht | ⟨ht, _⟩ | ⟨ht, _⟩ <;> exact absurd ht (by decide)))
theorem PY.bytes {v : Value} (h : PY W b id wide L) (hg : Gr (fun k => v.ownBlock = some k) W W') (hv : ∀ k, v.ownBlock = some k → ∃ cs z, W.heap[k]? = some (.cells cs 5 z)) : PY W' b id wide L :=
  h.move (fun g cs t x ht hh => hg.block g (Array.getElem?_eq_some_iff.1 hh).1 (fun e => by
    obtain ⟨cs', z, h1⟩ := hv g e
    rw [h1] at hh
    injection hh with hh
    injection hh with _ h3 _
    subst h3
    rcases ht with ht | ⟨ht, _⟩ <;> exact absurd ht (by decide)))
theorem PY.other {b' : Nat} {cs : Array Value} (h : PY W b id wide L) (hb : W.heap[b']? = some (.cells cs 67 (0, 0))) (hg : Gr (fun k => k = b') W W') : PY W' b id wide L :=
  h.move (fun g cs' t x ht hh => hg.block g (Array.getElem?_eq_some_iff.1 hh).1 (fun e => by
    subst e
    rw [hb] at hh
    injection hh with hh
    injection hh with _ h3 _
    subst h3
    rcases ht with ht | ⟨ht, _⟩ <;> exact absurd ht (by decide)))
theorem PK.block (h : PK sum W b id wide L) : ∃ cs, W.heap[b]? = some (.cells cs 67 (0, 0)) := by obtain ⟨A, c, A2, c2, F, hF, h1, _⟩ := h; exact ⟨_, h1⟩
theorem PY.block (h : PY W b id wide L) : ∃ cs, W.heap[b]? = some (.cells cs 46 (0, 0)) := by obtain ⟨A, c, h1, _⟩ := h; exact ⟨_, h1⟩
end
/-- What Add answers, and the chunks that are then there. -/
def ansN (E : Int) (n : Nat) : Int := if E = 0 then (n : Int) else 0
def ansL (E : Int) (L : List (List Nat)) (p : List Nat) : List (List Nat) := if E = 0 then L ++ [p] else L
theorem Add_any (S : Nat → Prop) (b id wide : Nat) (L : List (List Nat)) (A : Option Addr) (c : Nat) (p : List Nat) (w : World) (h : PKd sumN S w b id wide L) (hw1 : 1 ≤ wide) (hw2 : wide ≤ 64) (hL : L.length ≤ 64) (hF : L.flatten.length ≤ 32768) (hr : RN .u8 w A p) (hp : ∀ x ∈ p, x < 256) :
    Calls Try.prog 14 #[.pointer (some ⟨b, 0, none⟩), .slice A p.length c] w fun e w' =>
      e = .returned (.tuple #[.int .i64 (ansN (addErr wide L.length L.flatten.length p.length) L.length), .int .i64 (addErr wide L.length L.flatten.length p.length)]) ∧
      PKd sumN (fun g => S g ∨ w.heap.size ≤ g) w' b id wide (ansL (addErr wide L.length L.flatten.length p.length) L p) ∧ Gr (fun k => k = b) w w' := by
  by_cases hE : addErr wide L.length L.flatten.length p.length = 0
  · refine (Add_ok b id wide L A c p w h.pk hw1 hw2 hL hF hr hp hE).mono fun e w' ⟨h1, h2, h3⟩ => ?_
    unfold ansN ansL
    rw [if_pos hE, if_pos hE, hE]
    exact ⟨h1, h2.imp (fun g hg => .inr hg), h3⟩
  · refine (Add_bad sumN b id wide L A c p.length w h.pk hw1 hw2 hL hF (by have := hr.max; omega) hE).mono fun e w' ⟨h1, h2⟩ => ?_
    unfold ansN ansL
    rw [if_neg hE, if_neg hE]
    exact ⟨h1, (h.below h2).imp (fun g hg => .inl hg), Gr.of_below _ h2⟩
theorem Add_rany (b id wide : Nat) (L : List (List Nat)) (A : Option Addr) (c : Nat) (p : List Nat) (w : World) (h : PY w b id wide L) (hw1 : 1 ≤ wide) (hw2 : wide ≤ 64) (hL : L.length ≤ 64) (hF : L.flatten.length ≤ 32768) (hr : RN .u8 w A p) :
    Calls Try.prog 29 #[.pointer (some ⟨b, 0, none⟩), .slice A p.length c] w fun e w' =>
      e = .returned (.tuple #[.int .i64 (ansN (addErr wide L.length L.flatten.length p.length) L.length), .int .i64 (addErr wide L.length L.flatten.length p.length)]) ∧
      PY w' b id wide (ansL (addErr wide L.length L.flatten.length p.length) L p) ∧ Gr (fun k => k = b) w w' := by
  refine (Add_r b id wide L A c p w h hw1 hw2 hL hF hr).mono fun e w' ⟨h1, h2, h3⟩ => ?_
  by_cases hE : addErr wide L.length L.flatten.length p.length = 0
  · unfold ansN ansL
    rw [if_pos hE, if_pos hE]
    obtain ⟨h4, h5⟩ := h1 hE
    rw [hE]
    exact ⟨h4, h5, h3⟩
  · unfold ansN ansL
    rw [if_neg hE, if_neg hE]
    obtain ⟨h4, h5⟩ := h2 hE
    exact ⟨h4, h5, h3⟩
theorem ansL_ok {wide : Nat} {L : List (List Nat)} {p : List Nat} (h : Chunks L) (hf : Fit wide L) (hp : ∀ x ∈ p, x < 256) (hw : 1 ≤ wide) : Chunks (ansL (addErr wide L.length L.flatten.length p.length) L p) ∧ Fit wide (ansL (addErr wide L.length L.flatten.length p.length) L p) := by
  unfold ansL
  by_cases hE : addErr wide L.length L.flatten.length p.length = 0
  · rw [if_pos hE]
    exact h.snoc hp hE hw
  · rw [if_neg hE]
    exact ⟨h, hf⟩
/-- Both packers at hand. -/
def MadeOk (id wide : Nat) (w : World) (bx bY : Nat) (L : List (List Nat)) (w' : World) : Prop :=
  w.heap.size ≤ bx ∧ w.heap.size ≤ bY ∧ PK sumN w' bx id wide L ∧ PY w' bY id wide L ∧ Chunks L ∧ Fit wide L ∧ Below w.heap.size w w'
theorem made_bad (id wide : Int) (v : Value) (w : World) (h : id < 0 ∨ 4096 ≤ id ∨ wide < 4 ∨ 64 < wide) :
    Calls Try.prog 10 #[.int .i64 id, .int .i64 wide, v] w fun e w' => e = .returned (.tuple #[.pointer none, .pointer none, .bool true]) ∧ w' = w := by
  have h1 := New_bad id wide w h
  have h2 := New_r_bad id wide w (by omega)
  have H1 := Lib.hid h1
  have H2 := Lib.hid h2
  clear h1 h2 h
  go_enter Try.func10, Try.ntmps10
  go_wp2_with fail
  refine H1.out.mono ?_
  rintro e w1 ⟨rfl, hw1⟩
  subst hw1
  go_wp2_with fail
  refine H2.out.mono ?_
  rintro e w2 ⟨rfl, hw2⟩
  subst hw2
  go_wp2_with fail
  go_loop [13] (fun vi => vi = .int .i64 0) (fun _ => 0)
  case atStart => exact rfl
  case round =>
    subst hrel
    go_wp2_with fail
    go_ret3
    exact ⟨rfl, rfl⟩
theorem ne_self (x : Int) : (x != x) = false := by simp
set_option maxRecDepth 20000 in
set_option maxHeartbeats 4000000 in
theorem made_ok (id wide : Nat) (A : Option Addr) (c : Nat) (css : List (List Nat)) (w : World) (h1 : id < 4096) (h2 : 4 ≤ wide) (h3 : wide ≤ 64) (hr : RR w A css) (hby : ∀ x ∈ css.flatten, x < 256) (hlen : ∀ x ∈ css, x.length ≤ 140737488351232) :
    Calls Try.prog 10 #[.int .i64 (id : Nat), .int .i64 (wide : Nat), .slice A css.length c] w fun e w' => ∃ bx bY L, e = .returned (.tuple #[.pointer (some ⟨bx, 0, none⟩), .pointer (some ⟨bY, 0, none⟩), .bool true]) ∧ MadeOk id wide w bx bY L w' := by
  have hmx := hr.max
  have HR := Lib.hid hr
  have HBY := Lib.hid hby
  have HLN := Lib.hid hlen
  clear hr hby hlen
  go_enter Try.func10, Try.ntmps10
  go_wp2_with fail
  refine (New_c sumN id wide w h1 h2 h3).mono ?_
  rintro e w1 ⟨bx, rfl, hbx, hpk1, hb1⟩
  have HPK1 := Lib.hid hpk1
  have HB1 := Lib.hid hb1
  have hs1 := hb1.size
  clear hpk1 hb1
  go_wp2_with fail
  refine (New_r id wide w1 h1 h2 h3).mono ?_
  rintro e w2 ⟨bY, rfl, hbY, hpy2, hb2⟩
  have HPK2 := Lib.hid (HPK1.out.below sumN hb2)
  have HPY2 := Lib.hid hpy2
  have HB2 := Lib.hid (HB1.out.trans (hb2.mono hs1))
  clear hpy2 hb2 HPK1 HB1
  go_wp2_with fail
  go_loopw [13] (fun vi W => ∃ (i : Nat) (L : List (List Nat)), i ≤ css.length ∧ i ≤ 70 ∧ vi = .int .i64 i ∧ MadeOk id wide w bx bY L W) (fun vi _ => 70 - (intOf vi).toNat)
  case atStart => exact ⟨0, [], by omega, by omega, rfl, hbx, by omega, HPK2.out, HPY2.out, ⟨by simp, by simp⟩, by show 128 + _ + _ ≤ _; simp; omega, HB2.out⟩
  case round =>
    obtain ⟨i, L, hi, hi7, rfl, hm⟩ := hrel
    have HM := Lib.hid hm
    clear hm
    by_cases hgo : i < css.length ∧ i < 70
    · obtain ⟨hlt, hlt7⟩ := hgo
      have d1 : decide ((i : Int) < css.length) = true := decide_eq_true (by omega)
      have d2 : decide ((i : Int) < 70) = true := decide_eq_true (by omega)
      have i0 : (0 : Int) ≤ (i : Int) := by omega
      have i1 : (i : Int) < (css.length : Int) := by omega
      obtain ⟨_, _, hpk, hpy, hch, hfit, hbw⟩ := HM.out
      have hsw := hbw.size
      obtain ⟨ad, A8, c8, hA, q8, l8, r8⟩ := (HR.out.below hbw).at i hlt
      subst hA
      have hpb : ∀ x ∈ css[i], x < 256 := fun x hx => HBY.out x (List.mem_flatten.2 ⟨_, List.getElem_mem hlt, hx⟩)
      have hpl := HLN.out _ (List.getElem_mem hlt)
      obtain ⟨p, hp⟩ : ∃ p, css[i] = p := ⟨_, rfl⟩
      rw [hp] at q8 l8 r8 hpb hpl
      have hmp := r8.max
      have hbE : Below wr.heap.size wr (wr.alloc (.cells #[] 5)) := (Below.refl _ _).alloc (Nat.le_refl _) _
      have hE : OwnN .u8 5 (wr.alloc (.cells #[] 5)) wr.heap.size (.slice (some ⟨wr.heap.size, 0, none⟩) 0 0) [] := emptyV 5 1 wr
      have hsE : wr.heap.size ≤ (wr.alloc (.cells #[] 5)).heap.size := by simp
      have hqE := (hbE.cell (World.block_lt_of_cell? _ _ q8)).trans q8
      have HP := Lib.hid hp
      have HPB := Lib.hid hpb
      have HE := Lib.hid hE
      have HBE := Lib.hid hbE
      have HR8 := Lib.hid (r8.below hbE)
      have hfl := hch.flat
      have hl64 := hch.1
      have HPKw := Lib.hid hpk
      have HPYw := Lib.hid hpy
      have HCH := Lib.hid hch
      have HFIT := Lib.hid hfit
      have HBW := Lib.hid hbw
      have HFL := Lib.hid hfl
      have hbxw := hpk.lt
      have hbYw := hpy.lt
      clear hpk hpy hch hfit hbw hbE hE hp hpb r8 hfl HM
      obtain ⟨wo, rfl⟩ : ∃ wo : World, wo = wr := ⟨_, rfl⟩
      go_wp2_with (at_builtin; refine append_NN wo.heap.size rfl (.tmp 58) (.tmp 62) 27 5 .u8 1 rfl Try.underlying27 info_u8 (by decide) (.slice (some ⟨wo.heap.size, 0, none⟩) 0 0) [] p A8 c8 rfl rfl HE.out HR8.out hsE (by simp; omega) ?_; intro v6 x6 ho6 hg6 _)
      rw [List.nil_append] at ho6
      have hb6 := HBE.out.trans (below_grown HE.out hsE hg6)
      obtain ⟨A6, c6, rfl, hc6, _, _, hr6⟩ := ho6.form
      have HO6 := Lib.hid ho6
      have HX6 := Lib.hid (fun (k : Nat) (hk : (Value.slice A6 p.length c6).ownBlock = some k) => (ho6.typed k hk).2.1)
      have HB6 := Lib.hid hb6
      have HR6 := Lib.hid hr6
      have hs6 := hb6.size
      have hpk6 := HPKw.out.d.below hb6
      have HPY6 := Lib.hid (HPYw.out.below hb6)
      have hfp := HFL.out.1
      have HBW6 := Lib.hid (HBW.out.trans (hb6.mono hsw))
      clear ho6 hg6 hb6 hr6 HE HBE HR8 hqE hsE q8 l8
      go_wp2_with fail
      refine (Add_any (fun g => g < wo.heap.size) bx id wide L A6 c6 p x6 hpk6 (by omega) h3 hl64 hfp HR6.out HPB.out).mono ?_
      rintro e w7 ⟨rfl, hpd7, hgr7⟩
      obtain ⟨cx, hcx⟩ := HPKw.out.block
      have hcx6 := (HB6.out.block bx hbxw).trans hcx
      have hpy7 := HPY6.out.other hcx6 hgr7
      have ho7 : OwnN .u8 5 w7 wo.heap.size (.slice A6 p.length c6) p := HO6.out.move (fun b hb => hgr7.block b (HO6.out.typed b hb).2.1 (fun e => by have := (HO6.out.typed b hb).1; omega))
      have hbw7 := HBW6.out.trans (hgr7.below (HBW6.out.size) (fun x hx => by omega))
      obtain ⟨ad', A9, c9, hA', q9, l9, r9⟩ := (HR.out.below hbw7).at i hlt
      cases hA'
      rw [HP.out] at q9 l9 r9
      obtain ⟨E, hE⟩ : ∃ E, addErr wide L.length L.flatten.length p.length = E := ⟨_, rfl⟩
      obtain ⟨N, hN⟩ : ∃ N, ansN E L.length = N := ⟨_, rfl⟩
      obtain ⟨cy, hcy⟩ := hpy7.block
      have hadd := Add_rany bY id wide L A9 c9 p w7 hpy7 (by omega) h3 hl64 hfp r9
      have hnew := ansL_ok HCH.out HFIT.out HPB.out (by omega)
      rw [hE] at hadd hpd7 hnew ⊢
      rw [hN] at hadd ⊢
      obtain ⟨L2, hL2⟩ : ∃ L2, ansL E L p = L2 := ⟨_, rfl⟩
      rw [hL2] at hadd hpd7 hnew
      have HCY := Lib.hid hcy
      have HADD := Lib.hid hadd
      have HNEW := Lib.hid hnew
      have HPD7 := Lib.hid hpd7
      have HO7 := Lib.hid ho7
      have HBW7 := Lib.hid hbw7
      have hs7 := hgr7.size
      clear hcy hE hN hadd hnew hL2 hpd7 hpy7 ho7 hbw7 hcx hcx6 hgr7 hpk6 r9 HPY6 HO6 HBW6 HR6 HPKw HPYw HCH HFIT HFL
      go_wp2_with fail
      refine HADD.out.mono ?_
      rintro e w8 ⟨rfl, hpy8, hgr8⟩
      clear q9
      have hpd8 := HPD7.out.other HCY.out hgr8
      have ho8 : OwnN .u8 5 w8 wo.heap.size (.slice A6 p.length c6) p := HO7.out.move (fun b hb => hgr8.block b (HO7.out.typed b hb).2.1 (fun e => by have := (HO7.out.typed b hb).1; omega))
      have hbw8 := HBW7.out.trans (hgr8.below (HBW7.out.size) (fun x hx => by omega))
      have hs8 := hgr8.size
      have HPY8 := Lib.hid hpy8
      have HPD8 := Lib.hid hpd8
      have HO8 := Lib.hid ho8
      have HBW8 := Lib.hid hbw8
      clear hpy8 hgr8 hpd8 ho8 hbw8 HPD7 HO7 HBW7 HADD
      go_wp2_with fail
      have hown6 : ∀ k, (Value.slice A6 p.length c6).ownBlock = some k → wo.heap.size ≤ k ∧ k < x6.heap.size ∧ ∃ cs, w8.heap[k]? = some (.cells cs 5 (0, 0)) := fun k hk => by
        obtain ⟨h1, _, cs, h2⟩ := HO8.out.typed k hk
        exact ⟨h1, HX6.out k hk, cs, h2⟩
      have HOWN := Lib.hid hown6
      clear hown6 HX6
      go_loopw [19] (fun vk W => ∃ (j : Nat) (zs : List Nat), j ≤ p.length ∧ vk = .int .i64 j ∧ zs.length = p.length ∧ (∀ x ∈ zs, x < 256) ∧ OwnN .u8 5 W wo.heap.size (.slice A6 p.length c6) zs ∧ Gr (fun k => (Value.slice A6 p.length c6).ownBlock = some k) w8 W) (fun vk _ => p.length - (intOf vk).toNat)
      case atStart => exact ⟨0, p, by omega, rfl, rfl, HPB.out, HO8.out, Gr.refl _ _⟩
      case round =>
        obtain ⟨j, zs, hj, rfl, hzl, hzb, hoz, hbt⟩ := hrel
        have HZL := Lib.hid hzl
        have HZB := Lib.hid hzb
        have HBT := Lib.hid hbt
        by_cases hlt2 : j < p.length
        · have hd2 : decide ((j : Int) < p.length) = true := decide_eq_true (by omega)
          obtain ⟨g, rfl, _, hg1, hg2⟩ := hoz.head (by omega)
          rw [← hzl] at hoz
          have hcell := hoz.cellAt j (by omega)
          have hfr := hoz.frozenAt j
          have hzj : zs[j]'(by omega) < 256 := hzb _ (List.getElem_mem _)
          obtain ⟨z, hz⟩ : ∃ z, zs[j]'(by omega) = z := ⟨_, rfl⟩
          rw [hz] at hcell hzj
          have hxor : Go.bits .xor .u8 (z : Int) 1 = ((z ^^^ 1 : Nat) : Int) := u8_xor_nat z 1 hzj (by omega)
          have hxl : z ^^^ 1 < 256 := Nat.xor_lt_two_pow (n := 8) hzj (by omega)
          have hst := hoz.stored j (z ^^^ 1)
          have HST := Lib.hid hst
          have i2 : (0 : Int) ≤ (j : Int) := by omega
          have i3 : (j : Int) < (p.length : Int) := by omega
          have hgs : Gr (fun k => (Value.slice (some ⟨g, 0, none⟩) p.length c6).ownBlock = some k) w8 (wr.setCell ⟨g, j, none⟩ (.int .u8 (z ^^^ 1 : Nat))) := hbt.trans (Gr.setCell (S := fun k => (Value.slice (some ⟨g, 0, none⟩) p.length c6).ownBlock = some k) wr ⟨g, j, none⟩ _ rfl) (fun _ _ h => h)
          have HGS := Lib.hid hgs
          clear hzl hzb hoz hbt hz hst hgs
          go_wp2_with fail
          refine ⟨⟨j + 1, zs.set j (z ^^^ 1), by omega, by go_num, by rw [List.length_set]; exact HZL.out, set_lt HZB.out j hxl, ?_, HGS.out⟩, by simp [intOf]; omega⟩
          have h := HST.out
          rw [HZL.out] at h
          exact h
        · have hd2 : decide ((j : Int) < p.length) = false := decide_eq_false (by omega)
          have hbwr : Below w.heap.size w wr := HBW8.out.trans (hbt.below (HBW8.out.size) (fun k hk => by have := (HOWN.out k hk).1; omega))
          have hpyr := HPY8.out.bytes hbt (fun k hk => by obtain ⟨_, _, cs, h⟩ := HOWN.out k hk; exact ⟨cs, _, h⟩)
          have hpdr := HPD8.out.bytes hbt (fun k hk => by
            obtain ⟨h1, h2, cs, h⟩ := HOWN.out k hk
            exact ⟨⟨cs, _, h⟩, fun hS => by rcases hS with hS | hS <;> omega⟩)
          have hmade : MadeOk id wide w bx bY L2 wr := ⟨hbx, by omega, hpdr.pk, hpyr, HNEW.out.1, HNEW.out.2, hbwr⟩
          have HMADE := Lib.hid hmade
          have n1 := ne_self N
          have n2 := ne_self E
          clear hzl hzb hoz hbt hbwr hpyr hpdr hmade
          go_wp2_with fail
          exact ⟨⟨i + 1, L2, by omega, by omega, by go_num, HMADE.out⟩, by simp [intOf]; omega⟩
    · by_cases hlt : i < css.length
      · have d1 : decide ((i : Int) < css.length) = true := decide_eq_true (by omega)
        have d2 : decide ((i : Int) < 70) = false := decide_eq_false (by omega)
        clear hgo
        go_wp2_with fail
        go_ret3
        exact ⟨bx, bY, L, rfl, HM.out⟩
      · have d1 : decide ((i : Int) < css.length) = false := decide_eq_false (by omega)
        clear hgo
        go_wp2_with fail
        go_ret3
        exact ⟨bx, bY, L, rfl, HM.out⟩
end Go.Proofs.Ytejmklfhcealnaa.F

/- What must be whatever is asked: pack. -/
set_option linter.unusedVariables false
set_option linter.unusedSimpArgs false
namespace Go.Proofs.Ytejmklfhcealnaa.F
open Go.RowKit Go.Proofs.YtejmklfhcealnaaW.PrintWords

theorem abc_take : (bytesN 7 [[97, 98, 99]]).take 14 = [66, 73, 78, 49, 0, 0, 0, 7, 0, 1, 0, 0, 0, 3] := by
  have h : ∃ r, bytesN 7 [[97, 98, 99]] = (binN ++ bigN 4 7 ++ bigN 2 1 ++ bigN 4 3) ++ r := by
    refine ⟨bigN 4 (crcMore 0 (tableN [[97, 98, 99]])) ++ bigN 4 (crcMore 0 (head18 7 [[97, 98, 99]])) ++ List.replicate 106 0 ++ [[97, 98, 99]].flatten ++ tableN [[97, 98, 99]] ++ List.replicate (padZ (bodyN 7 [[97, 98, 99]]).length) 0, ?_⟩
    unfold bytesN
    generalize hz : padZ (bodyN 7 [[97, 98, 99]]).length = z
    unfold bodyN head22 head18
    simp
  obtain ⟨r, h⟩ := h
  rw [h, List.take_append_of_le_length (by simp [binN, bigN_len]), List.take_of_length_le (by simp [binN, bigN_len])]
  decide
theorem abc_len : (bytesN 7 [[97, 98, 99]]).length = 256 := by
  rw [bytesN_len]
  decide
set_option maxRecDepth 20000 in
set_option maxHeartbeats 4000000 in
theorem live_c (w : World) : Calls Try.prog 15 #[] w fun e w' => e = .returned (.bool true) ∧ Below w.heap.size w w' := by
  go_enter Try.func15, Try.ntmps15
  go_wp2_with fail
  refine (New_c sumN 7 4 w (by decide) (by decide) (by decide)).mono ?_
  rintro e w1 ⟨b, rfl, hb, hpk1, hb1⟩
  have hcv := Lib.run_convert_bytes_const w1 27 5 #[.int .u8 97, .int .u8 98, .int .u8 99] 3 3 Try.underlying27 Try.underlying5
  have HPK1 := Lib.hid hpk1
  have HB1 := Lib.hid hb1
  have hs1 := hb1.size
  clear hpk1 hb1
  go_wp2_with fail
  have hba : Below w1.heap.size w1 (w1.alloc (.cells #[.int .u8 97, .int .u8 98, .int .u8 99] 5 (3, 4))) := (Below.refl _ _).alloc (Nat.le_refl _) _
  have hga : (w1.alloc (.cells #[.int .u8 97, .int .u8 98, .int .u8 99] 5 (3, 4))).heap[w1.heap.size]? = some (.cells #[.int .u8 97, .int .u8 98, .int .u8 99] 5 (3, 4)) := heap_alloc_new _ _
  have hra : RN .u8 (w1.alloc (.cells #[.int .u8 97, .int .u8 98, .int .u8 99] 5 (3, 4))) (some ⟨w1.heap.size, 0, none⟩) [97, 98, 99] := RN.ofRowAt hga (fun j hj => by
    have hj : j < 3 := hj
    rcases j with _ | _ | _ | j
    · rfl
    · rfl
    · rfl
    · omega)
  refine (Add_ok b 7 4 [] _ 3 [97, 98, 99] _ (HPK1.out.below sumN hba) (by decide) (by decide) (by decide) (by decide) hra (by decide) (by decide)).mono ?_
  rintro e w2 ⟨rfl, hpd2, hg2⟩
  have hpk2 := hpd2.pk
  have hbw2 : Below w.heap.size w w2 := (HB1.out.trans (hba.mono hs1)).trans (hg2.below (Nat.le_trans hs1 hba.size) (fun x hx => by omega))
  have HPK2 := Lib.hid hpk2
  have HB2 := Lib.hid hbw2
  have hs2 := hbw2.size
  clear hcv hba hga hra hpd2 hg2 hpk2 hbw2 HPK1 HB1
  go_wp2_with fail
  refine (Bytes_c b 7 4 _ w2 HPK2.out (by decide) ⟨by decide, by decide⟩).mono ?_
  rintro e w3 ⟨v3, rfl, ho3, hb3⟩
  obtain ⟨A3, c3, e3, hc3, hr3⟩ := ho3.reads
  subst e3
  have hlen : (bytesN 7 ([] ++ [[97, 98, 99]])).length = 256 := abc_len
  have htk : (bytesN 7 ([] ++ [[97, 98, 99]])).take 14 = [66, 73, 78, 49, 0, 0, 0, 7, 0, 1, 0, 0, 0, 3] := abc_take
  have hr14 := hr3.take 14 (by omega)
  rw [htk] at hr14
  have hcs := RN.string (P := Try.prog) (src := 27) (dst := 9) (e := 5) (c := c3) Try.underlying27 Try.underlying5 Try.underlying9 hr14
  rw [strN_eq, show bstr [66, 73, 78, 49, 0, 0, 0, 7, 0, 1, 0, 0, 0, 3] = ⟨#[66, 73, 78, 49, 0, 0, 0, 7, 0, 1, 0, 0, 0, 3]⟩ from rfl] at hcs
  replace hcs : (convert 27 9 (.slice A3 14 c3)).run Try.prog w3 = .ok (.string ⟨#[66, 73, 78, 49, 0, 0, 0, 7, 0, 1, 0, 0, 0, 3]⟩) w3 := hcs
  obtain ⟨BB, hBB⟩ : ∃ BB, bytesN 7 ([] ++ [[97, 98, 99]]) = BB := ⟨_, rfl⟩
  rw [hBB] at hlen hc3 ⊢
  rw [hlen] at hc3 ⊢
  have HPK3 := Lib.hid (HPK2.out.below sumN hb3)
  have HB3 := Lib.hid (HB2.out.trans (hb3.mono hs2))
  have hc3' : (14 : Int) ≤ (c3 : Int) := by omega
  clear hr3 ho3 hb3 hBB hlen htk hr14
  go_wp2_with fail
  refine (PLen_c sumN b 7 4 _ w3 HPK3.out).mono ?_
  rintro e w4 ⟨rfl, hw4⟩
  subst hw4
  go_wp2_with fail
  go_ret
  exact ⟨rfl, HB3.out⟩
end Go.Proofs.Ytejmklfhcealnaa.F

/- A container takes as many sectors as it may at most: walked. -/
set_option linter.unusedVariables false
set_option linter.unusedSimpArgs false
namespace Go.Proofs.Ytejmklfhcealnaa.F
open Go.RowKit Go.Proofs.YtejmklfhcealnaaW.PrintWords
attribute [local go_sem ↓] Go.wp_at_zero Go.wp_at_succ

theorem room_le (wide n d : Nat) : roomN wide n d ≤ 512 := by
  unfold roomN
  split <;> omega
theorem room_more (wide n d : Nat) : addErr wide n d (roomN wide n d + 1) ≠ 0 := by
  unfold addErr
  split
  · simp
  · split
    · simp
    · rw [if_pos (by omega)]
      simp
theorem room_ok (wide n d : Nat) (h : 0 < roomN wide n d) : addErr wide n d (roomN wide n d) = 0 := by
  have h1 := room_le wide n d
  unfold addErr
  rw [if_neg (by omega), if_neg (fun e => by unfold roomN at h; rw [if_pos e] at h; omega), if_neg (by omega)]
theorem MadeOk.below {id wide bx bY : Nat} {L : List (List Nat)} {w W W' : World} (h : MadeOk id wide w bx bY L W) (hb : Below W.heap.size W W') : MadeOk id wide w bx bY L W' :=
  ⟨h.1, h.2.1, h.2.2.1.below sumN hb, h.2.2.2.1.below hb, h.2.2.2.2.1, h.2.2.2.2.2.1, h.2.2.2.2.2.2.trans (hb.mono h.2.2.2.2.2.2.size)⟩
set_option maxRecDepth 20000 in
set_option maxHeartbeats 4000000 in
theorem PackFits_walk (m0 : Nat) (A : Option Addr) (c : Nat) (css : List (List Nat)) (w : World) (h0 : m0 < 256) (hr : RR w A css) (hby : ∀ x ∈ css.flatten, x < 256) (hlen : ∀ x ∈ css, x.length ≤ 140737488351232) :
    Calls Try.prog 3 #[.int .u8 m0, .slice A css.length c] w fun e w' => e = .returned (.bool true) ∧ Below w.heap.size w w' := by
  have hmd := made_ok 1 (4 + m0 % 61) A c css w (by decide) (by omega) (by omega) hr hby hlen
  have hcast : (((4 + m0 % 61 : Nat)) : Int) = 4 + (m0 : Int) % 61 := by omega
  rw [hcast] at hmd
  obtain ⟨n, hn⟩ : ∃ n, 4 + m0 % 61 = n := ⟨_, rfl⟩
  rw [hn] at hmd hcast
  have hn4 : 4 ≤ n := by omega
  have hn64 : n ≤ 64 := by omega
  have HMD := Lib.hid hmd
  have HCAST := Lib.hid hcast
  clear hmd hcast hn hr hby hlen
  go_enter Try.func3, Try.ntmps3
  go_wp2_with fail
  refine HMD.out.mono ?_
  rintro e w1 ⟨bx, bY, L, rfl, hm⟩
  rw [← HCAST.out]
  obtain ⟨hbx, hbY, hpk, hpy, hch, hfit, hb1⟩ := hm
  have HPK := Lib.hid hpk
  have HCH := Lib.hid hch
  have HB1 := Lib.hid hb1
  have hbyl := bytesN_fit 1 n L hfit
  have hs1 := hb1.size
  have hfl := hch.flat.1
  have hl64 := hch.1
  have HFL := Lib.hid hfl
  clear hpk hpy hch hfit hb1 HMD HCAST hfl
  go_wp2_with fail
  refine (Bytes_c bx 1 n L w1 HPK.out (by decide) HCH.out).mono ?_
  rintro e w2 ⟨v2, rfl, ho2, hb2⟩
  obtain ⟨A2, c2, e2, hc2, hr2⟩ := ho2.reads
  subst e2
  have hm2 := hr2.max
  obtain ⟨BL, hBL⟩ : ∃ BL, (bytesN 1 L).length = BL := ⟨_, rfl⟩
  rw [hBL] at hbyl hc2 hm2 ⊢
  have hd1 : decide ((n : Int) * 128 < (BL : Int)) = false := decide_eq_false (by omega)
  have hd1' : decide (n * 128 < BL) = false := decide_eq_false (by omega)
  have HPK2 := Lib.hid (HPK.out.below sumN hb2)
  have HB2 := Lib.hid (HB1.out.trans (hb2.mono hs1))
  have hs2 := hb2.size
  clear ho2 hb2 hr2 hBL HPK HB1
  go_wp2_with fail
  refine (Room_c sumN bx 1 n L w2 HPK2.out (by omega) hn64 hl64 HFL.out).mono ?_
  rintro e w3 ⟨rfl, hb3⟩
  have hr1 := room_le n L.length L.flatten.length
  have hr2 := room_more n L.length L.flatten.length
  have hr3 := room_ok n L.length L.flatten.length
  have hfa := fun (p : List Nat) => addErr_fits n L p
  obtain ⟨r, hre⟩ : ∃ r, roomN n L.length L.flatten.length = r := ⟨_, rfl⟩
  rw [hre] at hr1 hr2 hr3 hfa ⊢
  have hd3 : decide ((r : Int) < 0) = false := decide_eq_false (by omega)
  have hd4 : decide ((512 : Int) < (r : Int)) = false := decide_eq_false (by omega)
  have hd4' : decide (512 < r) = false := decide_eq_false (by omega)
  obtain ⟨E, hE⟩ : ∃ E, addErr n L.length L.flatten.length (r + 1) = E := ⟨_, rfl⟩
  rw [hE] at hr2
  have hE0 : (E == 0) = false := by rw [beq_eq_false_iff_ne]; exact hr2
  have HPK3 := Lib.hid (HPK2.out.below sumN hb3)
  have HB3 := Lib.hid (HB2.out.trans (hb3.mono (by omega)))
  have hs3 := hb3.size
  have HR3 := Lib.hid hr3
  have HFA := Lib.hid hfa
  have HRE := Lib.hid hre
  have HE := Lib.hid hE
  clear hb3 hr2 hr3 hfa hre hE HPK2 HB2
  go_wp2_with fail
  have hmk : ∀ W : World, (Instr.makeSlice 27 (.int .i64 ((r : Int) + 1)) (.int .i64 ((r : Int) + 1))).run Try.prog W = .ok (.slice (some ⟨W.heap.size, 0, none⟩) (r + 1) (r + 1)) (W.alloc (.cells (madeCells #[.int .u8 0] (r + 1)) 5)) := fun W => by
    have h := print_make 27 5 .u8 1 Try.underlying27 info_u8 (by decide) (r + 1) (by omega) W
    rw [show (((r + 1 : Nat)) : Int) = (r : Int) + 1 by omega] at h
    exact h
  obtain ⟨MC, hMC⟩ : ∃ MC, madeCells #[.int .u8 0] (r + 1) = MC := ⟨_, rfl⟩
  rw [hMC] at hmk
  clear hMC
  have hwr : IntKind.i64.wrap ((r : Int) + 1) = (r : Int) + 1 := by rw [IntKind.wrap_i64]; omega
  have HE0 : Hid (E ≠ 0) := Lib.hid (by intro e; rw [e] at hE0; cases hE0)
  go_cut [11] from 48 to 56 (fun s11 wy => s11 = .int .i64 E ∧ Below w3.heap.size w3 wy)
  case first =>
    refine wp_region_late [] (fun _ => True) (by kernel_rfl) trivial (fun hT => ?_)
    refine WL.take (i := 0) (v := ?_) rfl (by kernel_rfl) (by kernel_rfl) (by kernel_rfl) (by kernel_rfl) (fun _ _ _ h => h) (Or.inl ⟨by rfl, ?_⟩) (by assumption) ?_
    rotate_left 1
    · (intro w' hSw; (try (replace hSw := hSw (by decide); dsimp only at hSw)); go_split_ands; go_simp; try with_reducible rfl)
    simp only [Act.put, List.getElem_toArray, List.getElem_cons_zero, List.getElem_cons_succ, List.setIfInBounds_toArray, List.set_cons_zero, List.set_cons_succ]
    refine WL.take (i := 2) (v := ?_) rfl (by kernel_rfl) (by kernel_rfl) (by kernel_rfl) (by kernel_rfl) (fun _ _ _ h => h) (Or.inl ⟨by rfl, ?_⟩) (by assumption) ?_
    rotate_left 1
    · (intro w' hSw; (try (replace hSw := hSw (by decide); dsimp only at hSw)); go_split_ands; go_simp; try with_reducible rfl)
    simp only [Act.put, List.getElem_toArray, List.getElem_cons_zero, List.getElem_cons_succ, List.setIfInBounds_toArray, List.set_cons_zero, List.set_cons_succ]
    refine WL.take (i := 3) (v := ?_) rfl (by kernel_rfl) (by kernel_rfl) (by kernel_rfl) (by kernel_rfl) (fun _ _ _ h => h) (Or.inl ⟨by rfl, ?_⟩) (by assumption) ?_
    rotate_left 1
    · (intro w' hSw; (try (replace hSw := hSw (by decide); dsimp only at hSw)); go_split_ands; go_simp; try with_reducible rfl)
    simp only [Act.put, List.getElem_toArray, List.getElem_cons_zero, List.getElem_cons_succ, List.setIfInBounds_toArray, List.set_cons_zero, List.set_cons_succ]
    refine WL.two (i := 1) (j := 4) (by kernel_rfl) rfl rfl (fun K hK => ?_) (fun K hK => ?_)
    · go_simp
      go_at_call 13
      refine (PFork_c sumN bx 1 n L _ (HPK3.out.below sumN (Below.refl _ _).drew)).mono ?_
      rintro e w5 ⟨bf, rfl, hbf, hpf, hb5⟩
      replace hb5 : Below w3.heap.size w3 w5 := ⟨hb5.os, hb5.tape, hb5.output, hb5.size, hb5.block⟩
      go_simp
      refine hK.out _ _ (fun _ => trivial) ?_
      clear hK K
      refine WL.one (i := 4) (by kernel_rfl) rfl (fun K hK => ?_)
      rw [if_pos (by rfl)]
      refine wp_make 27 (.tmp 52) (.tmp 52) (by rfl) ((r : Int) + 1) (by rfl) (by rfl) _ _ (hmk _) ?_
      go_simp
      refine hK.out _ _ (fun _ => trivial) ?_
      clear hK K
      replace hpf := hpf.below sumN ((Below.refl w5.heap.size w5).alloc (Nat.le_refl _) (.cells MC 5))
      replace hb5 := hb5.alloc hb5.size (.cells MC 5)
      generalize w5.alloc (.cells MC 5) = w7 at hpf hb5 ⊢
      generalize w5.heap.size = gm
      refine WL.late (i := 5) (by kernel_rfl) rfl (by kernel_rfl) (fun K hK => ?_)
      go_simp
      go_at_call 14
      refine (Add_bad sumN bf 1 n L (some ⟨gm, 0, none⟩) (r + 1) (r + 1) _ hpf (by omega) hn64 hl64 HFL.out (by omega) (by rw [HE.out]; exact HE0.out)).mono ?_
      rintro e w6 ⟨rfl, hb6⟩
      rw [HE.out]
      replace hb6 : Below w3.heap.size w3 w6 := hb5.trans (hb6.mono hb5.size)
      clear hpf hb5
      go_simp
      refine hK.out _ _ ?_
      clear hK K
      refine WL.take (i := 6) (v := ?_) rfl (by kernel_rfl) (by kernel_rfl) (by kernel_rfl) (by kernel_rfl) (fun _ _ _ h => h) (Or.inl ⟨by rfl, ?_⟩) (by assumption) ?_
      rotate_left 1
      · (intro w' hSw; (try (replace hSw := hSw (by decide); dsimp only at hSw)); go_split_ands; go_simp; try with_reducible rfl)
      simp only [Act.put, List.getElem_toArray, List.getElem_cons_zero, List.getElem_cons_succ, List.setIfInBounds_toArray, List.set_cons_zero, List.set_cons_succ]
      refine WL.take (i := 7) (v := ?_) rfl (by kernel_rfl) (by kernel_rfl) (by kernel_rfl) (by kernel_rfl) (fun _ _ _ h => h) (Or.inl ⟨by rfl, ?_⟩) (by assumption) ?_
      rotate_left 1
      · (intro w' hSw; (try (replace hSw := hSw (by decide); dsimp only at hSw)); go_split_ands; go_simp; try with_reducible rfl)
      simp only [Act.put, List.getElem_toArray, List.getElem_cons_zero, List.getElem_cons_succ, List.setIfInBounds_toArray, List.set_cons_zero, List.set_cons_succ]
      refine WL.take (i := 8) (v := ?_) rfl (by kernel_rfl) (by kernel_rfl) (by kernel_rfl) (by kernel_rfl) (fun _ _ _ h => h) (Or.inl ⟨by rfl, ?_⟩) (by assumption) ?_
      rotate_left 1
      · (intro w' hSw; (try (replace hSw := hSw (by decide); dsimp only at hSw)); go_split_ands; go_simp; try with_reducible rfl)
      simp only [Act.put, List.getElem_toArray, List.getElem_cons_zero, List.getElem_cons_succ, List.setIfInBounds_toArray, List.set_cons_zero, List.set_cons_succ]
      refine WL.late (i := 9) (by kernel_rfl) rfl (by kernel_rfl) (fun K hK => ?_)
      go_simp
      refine hK.out _ _ ?_
      clear hK K
      refine WL.late (i := 10) (by kernel_rfl) rfl (by kernel_rfl) (fun K hK => ?_)
      go_simp
      refine hK.out _ _ ?_
      clear hK K
      refine WL.done (by kernel_rfl) ?_ _
      go_wp2_with fail
      go_meet
      exact ⟨rfl, hb6⟩
    · rw [if_pos (by rfl)]
      refine wp_make 27 (.tmp 52) (.tmp 52) (by rfl) ((r : Int) + 1) (by rfl) (by rfl) _ _ (hmk _) ?_
      go_simp
      have hb4 : Below w3.heap.size w3 (w3.alloc (.cells MC 5)).drew := ((Below.refl _ _).alloc (Nat.le_refl _) _).drew
      refine hK.out _ _ (fun _ => trivial) ?_
      clear hK K
      generalize (w3.alloc (.cells MC 5)).drew = w4 at hb4 ⊢
      generalize hgm : w3.heap.size = gm at ⊢
      refine WL.one (i := 1) (by kernel_rfl) rfl (fun K hK => ?_)
      go_simp
      go_at_call 13
      refine (PFork_c sumN bx 1 n L _ (HPK3.out.below sumN hb4)).mono ?_
      rintro e w5 ⟨bf, rfl, hbf, hpf, hb5⟩
      replace hb5 : Below w3.heap.size w3 w5 := hb4.trans (hb5.mono hb4.size)
      clear hb4 hbf hgm
      go_simp
      refine hK.out _ _ (fun _ => trivial) ?_
      clear hK K
      refine WL.late (i := 5) (by kernel_rfl) rfl (by kernel_rfl) (fun K hK => ?_)
      go_simp
      go_at_call 14
      refine (Add_bad sumN bf 1 n L (some ⟨gm, 0, none⟩) (r + 1) (r + 1) _ hpf (by omega) hn64 hl64 HFL.out (by omega) (by rw [HE.out]; exact HE0.out)).mono ?_
      rintro e w6 ⟨rfl, hb6⟩
      rw [HE.out]
      replace hb6 : Below w3.heap.size w3 w6 := hb5.trans (hb6.mono hb5.size)
      clear hpf hb5
      go_simp
      refine hK.out _ _ ?_
      clear hK K
      refine WL.take (i := 6) (v := ?_) rfl (by kernel_rfl) (by kernel_rfl) (by kernel_rfl) (by kernel_rfl) (fun _ _ _ h => h) (Or.inl ⟨by rfl, ?_⟩) (by assumption) ?_
      rotate_left 1
      · (intro w' hSw; (try (replace hSw := hSw (by decide); dsimp only at hSw)); go_split_ands; go_simp; try with_reducible rfl)
      simp only [Act.put, List.getElem_toArray, List.getElem_cons_zero, List.getElem_cons_succ, List.setIfInBounds_toArray, List.set_cons_zero, List.set_cons_succ]
      refine WL.take (i := 7) (v := ?_) rfl (by kernel_rfl) (by kernel_rfl) (by kernel_rfl) (by kernel_rfl) (fun _ _ _ h => h) (Or.inl ⟨by rfl, ?_⟩) (by assumption) ?_
      rotate_left 1
      · (intro w' hSw; (try (replace hSw := hSw (by decide); dsimp only at hSw)); go_split_ands; go_simp; try with_reducible rfl)
      simp only [Act.put, List.getElem_toArray, List.getElem_cons_zero, List.getElem_cons_succ, List.setIfInBounds_toArray, List.set_cons_zero, List.set_cons_succ]
      refine WL.take (i := 8) (v := ?_) rfl (by kernel_rfl) (by kernel_rfl) (by kernel_rfl) (by kernel_rfl) (fun _ _ _ h => h) (Or.inl ⟨by rfl, ?_⟩) (by assumption) ?_
      rotate_left 1
      · (intro w' hSw; (try (replace hSw := hSw (by decide); dsimp only at hSw)); go_split_ands; go_simp; try with_reducible rfl)
      simp only [Act.put, List.getElem_toArray, List.getElem_cons_zero, List.getElem_cons_succ, List.setIfInBounds_toArray, List.set_cons_zero, List.set_cons_succ]
      refine WL.late (i := 9) (by kernel_rfl) rfl (by kernel_rfl) (fun K hK => ?_)
      go_simp
      refine hK.out _ _ ?_
      clear hK K
      refine WL.late (i := 10) (by kernel_rfl) rfl (by kernel_rfl) (fun K hK => ?_)
      go_simp
      refine hK.out _ _ ?_
      clear hK K
      refine WL.done (by kernel_rfl) ?_ _
      go_wp2_with fail
      go_meet
      exact ⟨rfl, hb6⟩
  case rest =>
    obtain ⟨rfl, hb5⟩ := hcut
    have HPK5 := Lib.hid (HPK3.out.below sumN hb5)
    have HB5 := Lib.hid (HB3.out.trans (hb5.mono (by omega)))
    have hs5 := hb5.size
    clear hb5 hmk hwr HPK3 HB3
    by_cases hr0 : 0 < r
    · have hd5 : decide ((0 : Int) < (r : Int)) = true := decide_eq_true (by omega)
      have hd5' : decide (0 < r) = true := decide_eq_true (by omega)
      have hmk : ∀ W : World, (Instr.makeSlice 27 (.int .i64 (r : Int)) (.int .i64 (r : Int))).run Try.prog W = .ok (.slice (some ⟨W.heap.size, 0, none⟩) r r) (W.alloc (.cells (madeCells #[.int .u8 0] r) 5)) := print_make 27 5 .u8 1 Try.underlying27 info_u8 (by decide) r (by omega)
      go_wp2_with fail
      refine (PFork_c sumN bx 1 n L _ HPK5.out).mono ?_
      rintro e w6 ⟨bf, rfl, hbf, hpf, hb6⟩
      have HPF := Lib.hid hpf
      have HPK6 := Lib.hid (HPK5.out.below sumN hb6)
      have HB6 := Lib.hid (HB5.out.trans (hb6.mono (by omega)))
      have hs6 := hb6.size
      have HB56 := Lib.hid hb6
      clear hpf hb6
      go_wp2_with fail
      have hba : Below w6.heap.size w6 (w6.alloc (.cells (madeCells #[.int .u8 0] r) 5)) := (Below.refl _ _).alloc (Nat.le_refl _) _
      have hra : RN .u8 (w6.alloc (.cells (madeCells #[.int .u8 0] r) 5)) (some ⟨w6.heap.size, 0, none⟩) (List.replicate r 0) := by
        have h := made_N (W := w6) (base := w6.heap.size) (e := 5) (k := .u8) (m := r) (Nat.le_refl _) (by omega)
        obtain ⟨A', c', e', _, h'⟩ := OwnN.reads h
        injection e' with e1 e2 e3
        rw [e1]
        exact h'
      obtain ⟨zs, hzs⟩ : ∃ zs, List.replicate r 0 = zs := ⟨_, rfl⟩
      have hzl : zs.length = r := by rw [← hzs]; simp
      have hzb : ∀ x ∈ zs, x < 256 := by rw [← hzs]; exact rep_lt r
      rw [hzs] at hra
      have haok : addErr n L.length L.flatten.length zs.length = 0 := by rw [hzl]; exact HR3.out hr0
      have hadd := Add_ok bf 1 n L (some ⟨w6.heap.size, 0, none⟩) r zs _ (HPF.out.below sumN hba) (by omega) hn64 hl64 HFL.out hra hzb haok
      rw [hzl] at hadd
      have hch2 := (HCH.out.snoc hzb haok (by omega)).1
      have hfit2 := (HCH.out.snoc hzb haok (by omega)).2
      refine hadd.mono ?_
      rintro e w7 ⟨rfl, hpd7, hg7⟩
      have hbw7 : Below wc.heap.size wc w7 := (HB56.out.trans (hba.mono hs6)).trans (hg7.below (Nat.le_trans hs6 hba.size) (fun x hx => by omega))
      have hbf2 := bytesN_fit 1 n (L ++ [zs]) hfit2
      have HPF7 := Lib.hid hpd7.pk
      have HPK7 := Lib.hid (HPK5.out.below sumN hbw7)
      have HB7 := Lib.hid (HB5.out.trans (hbw7.mono (by omega)))
      have hs7 := hbw7.size
      have HCH2 := Lib.hid hch2
      clear hadd hpd7 hg7 hba hra hzl hzb haok hch2 hfit2 hbw7 hmk hzs
      go_wp2_with fail
      refine (Bytes_c bf 1 n (L ++ [zs]) w7 HPF7.out (by decide) HCH2.out).mono ?_
      rintro e w8 ⟨v8, rfl, ho8, hb8⟩
      obtain ⟨A8, c8, e8, hc8, hr8⟩ := ho8.reads
      subst e8
      have hm8 := hr8.max
      obtain ⟨B8, hB8⟩ : ∃ B8, (bytesN 1 (L ++ [zs])).length = B8 := ⟨_, rfl⟩
      rw [hB8] at hbf2 hc8 hm8 ⊢
      have hd8 : decide ((n : Int) * 128 < (B8 : Int)) = false := decide_eq_false (by omega)
      have hd8' : decide (n * 128 < B8) = false := decide_eq_false (by omega)
      have HPKE := Lib.hid (HPK7.out.below sumN hb8)
      have HBE := Lib.hid (HB7.out.trans (hb8.mono (by omega)))
      have hsE := hb8.size
      clear ho8 hb8 hr8 hB8
      go_wp2_with fail
      refine (live_c _).mono ?_
      rintro e wl ⟨rfl, hbl⟩
      have HPKL := Lib.hid (HPKE.out.below sumN hbl)
      have HBL := Lib.hid (HBE.out.trans (hbl.mono (by omega)))
      have hsl := hbl.size
      clear hbl
      go_wp2_with fail
      have hroom := Room_c sumN bx 1 n L wl HPKL.out (by omega) hn64 hl64 HFL.out
      rw [HRE.out] at hroom
      refine hroom.mono ?_
      rintro e wr ⟨rfl, hbr⟩
      have HBR := Lib.hid (HBL.out.trans (hbr.mono (by omega)))
      clear hbr hroom
      have hrr : ((r : Int) == (r : Int)) = true := by simp
      go_wp2_with fail
      go_ret
      exact ⟨rfl, HBR.out⟩
    · have hd5 : decide ((0 : Int) < (r : Int)) = false := decide_eq_false (by omega)
      have hd5' : decide (0 < r) = false := decide_eq_false (by omega)
      have HPKE := HPK5
      have HBE := HB5
      go_wp2_with fail
      refine (live_c _).mono ?_
      rintro e wl ⟨rfl, hbl⟩
      have HPKL := Lib.hid (HPKE.out.below sumN hbl)
      have HBL := Lib.hid (HBE.out.trans (hbl.mono (by omega)))
      have hsl := hbl.size
      clear hbl
      go_wp2_with fail
      have hroom := Room_c sumN bx 1 n L wl HPKL.out (by omega) hn64 hl64 HFL.out
      rw [HRE.out] at hroom
      refine hroom.mono ?_
      rintro e wr ⟨rfl, hbr⟩
      have HBR := Lib.hid (HBL.out.trans (hbr.mono (by omega)))
      clear hbr hroom
      have hrr : ((r : Int) == (r : Int)) = true := by simp
      go_wp2_with fail
      go_ret
      exact ⟨rfl, HBR.out⟩
end Go.Proofs.Ytejmklfhcealnaa.F
