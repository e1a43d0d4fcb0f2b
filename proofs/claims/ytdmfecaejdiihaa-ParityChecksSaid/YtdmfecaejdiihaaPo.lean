/- Own rows of bytes, stored into; the first place of a byte; the shard at a point. -/
import Derived.Test.YtdmfecaejdiihaaPj
import Derived.Test.YtdmfecaejdiihaaAp
import Derived.Lib.IndexLaws
import Derived.Lib.BytesEntry
import Derived.Laws.Externs
set_option linter.unusedVariables false
set_option linter.unusedSimpArgs false
namespace Go.Proofs.Ytdmfecaejdiihaa.F
open Go.RowKit Go.Proofs.YtdmfecaejdiihaaW.PrintWords

theorem made_N {W : World} {base : Nat} {e : TypeId} {k : IntKind} {m : Nat} (hb : base ≤ W.heap.size) (hm : m ≤ 9223372036854775807) :
    OwnN k e (W.alloc (.cells (madeCells #[.int k 0] m) e)) base (.slice (some ⟨W.heap.size, 0, none⟩) m m) (List.replicate m 0) := by
  have h := own_made W base e k m hb hm
  unfold OwnN
  rw [List.length_replicate]
  have e1 : nums k (List.replicate m 0) = (List.replicate m 0).map (encN k) := by simp [nums, encN]
  rw [← e1]
  exact h
theorem OwnN.cellAt {k : IntKind} {e : TypeId} {W : World} {base g cap : Nat} {xs : List Nat} (h : OwnN k e W base (.slice (some ⟨g, 0, none⟩) xs.length cap) xs) (j : Nat) (hj : j < xs.length) : W.cell? ⟨g, j, none⟩ = some (.int k (xs[j] : Nat)) := by
  have h' : W.ownsRow base e 1 (.slice (some ⟨g, 0, none⟩) xs.length cap) xs.length (xs.map (encN k)) := h
  rw [h'.cellAt j (by omega)]
  simp [hj, encN]
theorem OwnN.frozenAt {k : IntKind} {e : TypeId} {W : World} {base g cap : Nat} {xs : List Nat} (h : OwnN k e W base (.slice (some ⟨g, 0, none⟩) xs.length cap) xs) (j : Nat) : W.frozen? ⟨g, j, none⟩ = false :=
  World.ownsRow.frozenAt (show W.ownsRow base e 1 (.slice (some ⟨g, 0, none⟩) xs.length cap) xs.length (xs.map (encN k)) from h) j
theorem OwnN.stored {k : IntKind} {e : TypeId} {W : World} {base g cap : Nat} {xs : List Nat} (h : OwnN k e W base (.slice (some ⟨g, 0, none⟩) xs.length cap) xs) (j x : Nat) : OwnN k e (W.setCell ⟨g, j, none⟩ (.int k (x : Nat))) base (.slice (some ⟨g, 0, none⟩) xs.length cap) (xs.set j x) := by
  have h' : W.ownsRow base e 1 (.slice (some ⟨g, 0, none⟩) xs.length cap) xs.length (xs.map (encN k)) := h
  have := (h'.stored j (.int k (x : Nat))).1
  unfold OwnN
  rw [List.length_set, List.map_set]
  exact this
theorem set_lt {zs : List Nat} (h : ∀ x ∈ zs, x < 256) (j : Nat) {y : Nat} (hy : y < 256) : ∀ x ∈ zs.set j y, x < 256 := fun x hx => by
  rcases List.mem_or_eq_of_mem_set hx with h1 | h1
  · exact h x h1
  · omega
theorem OwnN.head {k : IntKind} {e : TypeId} {W : World} {base : Nat} {A : Option Addr} {n c : Nat} {xs : List Nat} (h : OwnN k e W base (.slice A n c) xs) (hx : 0 < xs.length) : ∃ g, A = some ⟨g, 0, none⟩ ∧ n = xs.length ∧ base ≤ g ∧ g < W.heap.size := by
  rcases h.2 with ⟨_, h0⟩ | ⟨g, cap, cur, e2, hb, hh, hc, _⟩
  · omega
  · injection e2 with e3 e4 e5
    exact ⟨g, e3, e4, hb, (Array.getElem?_eq_some_iff.1 hh).1⟩

theorem below_grown {k : IntKind} {e : TypeId} {B : Nat} {W W' : World} {v : Value} {xs : List Nat} (ho : OwnN k e W B v xs) (hb : B ≤ W.heap.size) (hg : W.grownBy W' v.ownBlock) : Below B W W' :=
  ⟨hg.os, hg.tape, hg.output, hg.size, fun j hj => hg.block j (by omega) (fun hh => by have := (ho.typed j hh.symm).1; omega)⟩
theorem OwnN.form {k : IntKind} {e : TypeId} {W : World} {base : Nat} {v : Value} {xs : List Nat} (h : OwnN k e W base v xs) :
    ∃ A c, v = .slice A xs.length c ∧ xs.length ≤ c ∧ (A = none → c = 0) ∧ (∀ a, A = some a → base ≤ a.block ∧ a.block < W.heap.size) ∧ RN k W A xs := by
  obtain ⟨A, c, e, hc, hr⟩ := h.reads
  refine ⟨A, c, e, hc, ?_, ?_, hr⟩
  · rcases h.2 with ⟨e2, _⟩ | ⟨g, cap, cur, e2, _⟩
    · rw [e] at e2; simp at e2; intro _; omega
    · rw [e] at e2; simp at e2; intro hn; rw [hn] at e2; simp at e2
  · intro a ha
    have hb := h.typed a.block
    rcases h.2 with ⟨e2, _⟩ | ⟨g, cap, cur, e2, _⟩
    · rw [e] at e2; simp at e2; rw [ha] at e2; simp at e2
    · have e3 := e2
      rw [e] at e3
      simp at e3
      rw [ha] at e3
      simp at e3
      obtain ⟨⟨rfl⟩, _⟩ := e3
      have := hb (by rw [e2]; rfl)
      exact ⟨this.1, this.2.1⟩
theorem empty_lit (w : World) : OwnN .u8 5 (w.alloc (.cells #[] 5)) w.heap.size (.slice (some ⟨w.heap.size, 0, none⟩) 0 0) [] := by
  have := own_lit_of (enc := encN .u8) w w.heap.size 5 [] (by simp) (by simp)
  simp only [List.map_nil, List.length_nil, encs] at this
  exact this
/-- The first place of x in l, or -1. -/
def place (l : List Nat) (x : Nat) : Int := if x ∈ l then (l.idxOf x : Int) else -1
theorem place_eq (l : List Nat) (x : Nat) (hl : ∀ y ∈ l, y < 256) (hx : x < 256) : Lib.indexByte (Lib.bytesOf (l.map Int.ofNat)) ((x : Int).toNat.toUInt8) = place l x := by
  have e : Lib.bytesOf (l.map Int.ofNat) = l.map fun n => UInt8.ofNat n := by
    unfold Lib.bytesOf
    rw [List.map_map]
    apply List.map_congr_left
    intro y _
    simp
  have ex : ((x : Int).toNat.toUInt8) = UInt8.ofNat x := rfl
  rw [e, ex]
  have hinj : ∀ y ∈ l, (UInt8.ofNat y == UInt8.ofNat x) = (y == x) := by
    intro y hy
    rw [Bool.eq_iff_iff]
    simp only [beq_iff_eq]
    constructor
    · intro h
      have := congrArg UInt8.toNat h
      rw [UInt8.toNat_ofNat', UInt8.toNat_ofNat', Nat.mod_eq_of_lt (hl y hy), Nat.mod_eq_of_lt hx] at this
      exact this
    · rintro rfl; rfl
  clear e ex
  induction l with
  | nil => rfl
  | cons y l ih =>
    have ih' := ih (fun z hz => hl z (by simp [hz])) (fun z hz => hinj z (by simp [hz]))
    have h0 := hinj y (by simp)
    unfold place at ih' ⊢
    rw [List.map_cons]
    by_cases hy : y = x
    · subst hy
      simp [Lib.indexByte]
    · have hne : ¬ (UInt8.ofNat y = UInt8.ofNat x) := by
        intro h
        rw [h] at h0
        simp [hy] at h0
      have hxy : ¬ x = y := fun h => hy h.symm
      simp only [Lib.indexByte, List.mem_cons, hxy, false_or, List.idxOf_cons]
      rw [show (UInt8.ofNat y == UInt8.ofNat x) = false by simp [hne], show (y == x) = false by simp [hy], ih']
      by_cases hm : x ∈ l
      · rw [if_pos hm, if_pos hm]
        have h2 : ¬ ((List.idxOf x l : Int) = -1) := by omega
        simp [h2]
      · rw [if_neg hm, if_neg hm]
        simp
theorem IndexByte_c (g c : Nat) (l : List Nat) (base x : Nat) (w : World) (ho : OwnN .u8 5 w base (.slice (some ⟨g, 0, none⟩) l.length c) l) (hl : ∀ y ∈ l, y < 256) (hx : x < 256) :
    Calls Try.prog 29 #[.slice (some ⟨g, 0, none⟩) l.length c, .int .u8 x] w fun e w' => e = .returned (.int .i64 (place l x)) ∧ w' = w := by
  have hc : ∀ i, i < l.length → w.cell? ⟨g, 0 + i, none⟩ = some (.int .u8 ((l.map Int.ofNat).getD i 0)) := fun i hi => by
    rw [Nat.zero_add, ho.cellAt i hi]
    simp [List.getD_eq_getElem?_getD, hi]
  have hrun := Lib.run_indexByteSlice (P := Try.prog) w g 0 l.length c (l.map Int.ofNat) (by simp) hc (x : Int)
  rw [place_eq l x hl hx] at hrun
  have HR := Lib.hid hrun
  clear hrun hc
  go_enter Try.func29, Try.ntmps29
  go_wp2
  rw [run_callFunc_extern Try.func35 (by kernel_rfl) (by kernel_rfl) (by kernel_rfl) (e := Extern.BytealgIndexByte.indexByte) (by kernel_rfl), HR.out]
  simp only [Result.andThen]
  rw [Oper.upon_value]
  go_wp2
  go_ret
  exact ⟨rfl, rfl⟩
end Go.Proofs.Ytdmfecaejdiihaa.F
