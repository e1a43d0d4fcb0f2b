/- The parity of data, walked. -/
import Derived.Test.YtdmfecaejdiihaaPg
set_option linter.unusedVariables false
set_option linter.unusedSimpArgs false
namespace Go.Proofs.Ytdmfecaejdiihaa.F
open Go.RowKit Go.Proofs.YtdmfecaejdiihaaW.PrintWords

/-- 'xs[m:]' of a row of rows. -/
theorem RR.cut {P : Program} (t e : TypeId) {i : TypeInfo} (ht : P.underlying t = some (.slice e)) (hi : P.info? e = some i) (hsz : i.size = 1) (A : Option Addr) (n c m : Nat) (hm : m ≤ n) (hc : n ≤ c) :
    ∃ A' : Option Addr, (∀ W : World, (Instr.slice t (.slice A n c) (some (.int .i64 (m : Int))) none none).run P W = .ok (.slice A' (n - m) (c - m)) W) ∧
      ∀ (w : World) (css : List (List Nat)), css.length = n → RR w A css → RR w A' (css.drop m) := by
  have hel : P.elem t = e := by simp [Program.elem, ht]
  have hu : P.underlying t = some (.slice (P.elem t)) := by rw [hel]; exact ht
  refine ⟨if c = m then A else A.map (·.add m), fun W => ?_, fun w css hx h => ?_⟩
  · rw [run_slice_l W t A n c hu .i64 (m : Int) (Int.natCast_nonneg _) (by omega), hel]
    simp [sizeOf, typeInfo, hi, hsz, sliced, Result.andThen]
  · refine ⟨by rw [List.length_drop]; have := h.1; omega, fun hp => ?_⟩
    rw [List.length_drop] at hp
    obtain ⟨ad, e, hcell⟩ := h.2 (by omega)
    subst e
    refine ⟨ad.add m, by rw [if_neg (by omega)]; rfl, fun j hj => ?_⟩
    rw [List.length_drop] at hj
    obtain ⟨A', c', h1, h2, h3⟩ := hcell (m + j) (by omega)
    rw [List.getElem_drop]
    exact ⟨A', c', by rw [add_add]; exact h1, h2, h3⟩
theorem info_sl' : ∃ i, Try.prog.info? 29 = some i ∧ i.size = 1 := by
  have h : (Try.prog.info? 29).map (fun i => i.size) = some 1 := by kernel_rfl
  obtain ⟨i, hi, hz⟩ := Option.map_eq_some_iff.1 h
  exact ⟨i, hi, hz⟩
theorem lit_reads (k : IntKind) (e : TypeId) (w : World) (xs : List Nat) (hm : xs.length ≤ 9223372036854775807) :
    RN k (w.alloc (.cells (xs.map (encN k)).toArray e)) (some ⟨w.heap.size, 0, none⟩) xs := by
  have h : OwnN k e (w.alloc (.cells (xs.map (encN k)).toArray e)) w.heap.size (.slice (some ⟨w.heap.size, 0, none⟩) xs.length xs.length) xs := own_lit_of (enc := encN k) w w.heap.size e xs (Nat.le_refl _) hm
  obtain ⟨A, c, he, _, hr⟩ := h.reads
  injection he with h1 h2 h3
  rw [h1]
  exact hr


def heldLens (sv : List SD) : List Nat := (sv.filter (fun x => x.1.isSome)).map (fun x => x.2.1)
/-- What is wrong with lengths. -/
def wrongV : List Nat → Int
  | [] => 0
  | n :: l => if ∀ m ∈ l, m = n then 0 else 4
def wf (st : Int × Int) (l : List Nat) : Int × Int := l.foldl (fun st (n : Nat) => ((n : Int), if 0 ≤ st.1 ∧ (n : Int) ≠ st.1 then 4 else st.2)) st
theorem wf_four (l : List Nat) : ∀ s : Int, (wf (s, 4) l).2 = 4 := by
  induction l with
  | nil => intro s; rfl
  | cons n l ih =>
    intro s
    show (wf ((n : Int), if 0 ≤ s ∧ (n : Int) ≠ s then 4 else 4) l).2 = 4
    rw [ite_self]
    exact ih _
theorem wf_same (l : List Nat) : ∀ s : Nat, (wf ((s : Int), 0) l).2 = if ∀ m ∈ l, m = s then 0 else 4 := by
  induction l with
  | nil => intro s; simp [wf]
  | cons n l ih =>
    intro s
    show (wf ((n : Int), if 0 ≤ (s : Int) ∧ (n : Int) ≠ (s : Int) then 4 else 0) l).2 = _
    by_cases h : n = s
    · subst h
      rw [if_neg (by simp), ih]
      simp
    · rw [if_pos ⟨by omega, by omega⟩, wf_four, if_neg (fun hh => h (hh n (by simp)))]
theorem wf_wrong (l : List Nat) : (wf (-1, 0) l).2 = wrongV l := by
  cases l with
  | nil => rfl
  | cons n l =>
    show (wf ((n : Int), if 0 ≤ (-1 : Int) ∧ (n : Int) ≠ -1 then 4 else 0) l).2 = _
    rw [if_neg (by omega), wf_same]
    rfl
theorem wst_wf (l : List HS) : wst l = wf (-1, 0) (l.map fun x => x.1.2.2.1) := by
  unfold wst wf
  rw [List.foldl_map]
theorem hsUp_lens (sv : List SD) (hsv : ∀ x ∈ sv, x.2.1 ≤ 4096) : ∀ k, k ≤ sv.length → (hsUp sv hsv k).map (fun x => x.1.2.2.1) = heldLens (sv.take k)
  | 0, _ => by simp [hsUp, heldLens]
  | k + 1, h => by
    have ih := hsUp_lens sv hsv k (by omega)
    have hk : k < sv.length := by omega
    rw [hsUp_succ, List.map_append, ih, List.take_succ_eq_append_getElem hk]
    unfold heldLens
    rw [List.filter_append, List.map_append]
    congr 1
    unfold hsAt
    rw [dif_pos hk]
    cases h1 : sv[k].1 with
    | none => simp [h1]
    | some a => simp [h1]
theorem wrong_v (sv : List SD) (hsv : ∀ x ∈ sv, x.2.1 ≤ 4096) : (wst (hsUp sv hsv sv.length)).2 = wrongV (heldLens sv) := by
  rw [wst_wf, wf_wrong, hsUp_lens sv hsv sv.length (Nat.le_refl _), List.take_length]
theorem Wrong_p (A : Option Addr) (cap : Nat) (sv : List SD) (hsv : ∀ x ∈ sv, x.2.1 ≤ 4096) (w : World) (hI : SV w A sv) :
    Calls Try.prog 18 #[.slice A sv.length cap] w fun e W' => e = .returned (.int .i64 (wrongV (heldLens sv))) ∧ Below w.heap.size w W' := by
  rw [← wrong_v sv hsv]
  exact wrong_c A cap sv hsv w hI
end Go.Proofs.Ytdmfecaejdiihaa.F
