/- A region that draws its order and stores, last, into a cell that it loads: what yields is taken first; the loads, as long as T holds of the world, which only what waits for all of them may end. -/
import Derived.OrdersHeld
import Derived.RegionTactic
import Derived.WalkKit
import Derived.Lib.Hide
set_option linter.unusedVariables false
set_option linter.unusedSimpArgs false
namespace Go.Proofs.Ytejmklfhcealnaa.F

section
variable {P : Program} {md : Region.Mode} {ops : Array Oper} {Q : Exit → Act → World → Prop} {L : List Nat} {T : World → Prop}
/-- Does j wait for k, at whatever remove? -/
def waits (md : Region.Mode) (ops : Array Oper) : Nat → Nat → Nat → Bool
  | 0, _, _ => false
  | n + 1, j, k => match ops[j]? with
    | none => false
    | some o => o.after.any fun e => Region.binds md e && (e.on == k || waits md ops n e.on k)
/-- What has been done, all that it waited for has. -/
def Closed (md : Region.Mode) (ops : Array Oper) (listed : Array Bool) : Prop :=
  ∀ j o, ops[j]? = some o → listed.getD j false = true → ∀ e ∈ o.after, Region.binds md e = true → listed.getD e.on false = true
def closedB (md : Region.Mode) (ops : Array Oper) (listed : Array Bool) : Bool :=
  (List.range ops.size).all fun j => match ops[j]? with
    | none => true
    | some o => !listed.getD j false || o.after.all fun e => !Region.binds md e || listed.getD e.on false
theorem closed_of {listed : Array Bool} (h : closedB md ops listed = true) : Closed md ops listed := fun j o ho hl e he hb => by
  have hj : j < ops.size := (Array.getElem?_eq_some_iff.1 ho).1
  have h1 := List.all_eq_true.1 h j (List.mem_range.2 hj)
  rw [ho] at h1
  simp only [hl, Bool.not_true, Bool.false_or] at h1
  have h2 := Array.all_eq_true_iff_forall_mem.1 h1 e he
  simpa [hb] using h2
theorem waits_done {listed : Array Bool} (hc : Closed md ops listed) : ∀ (n j k : Nat), (∀ o, ops[j]? = some o → ∀ e ∈ o.after, Region.binds md e = true → listed.getD e.on false = true) → waits md ops n j k = true → listed.getD k false = true
  | 0, j, k, _, h => by simp [waits] at h
  | n + 1, j, k, hj, h => by
    unfold waits at h
    split at h
    · cases h
    · rename_i o ho
      obtain ⟨e, he, hb⟩ := Array.any_eq_true'.1 h
      simp only [Bool.and_eq_true, Bool.or_eq_true, beq_iff_eq] at hb
      obtain ⟨hb1, hb2⟩ := hb
      have hon := hj o ho e he hb1
      rcases hb2 with rfl | hb2
      · exact hon
      · exact waits_done hc n e.on k (fun o2 ho2 e2 he2 hb => hc _ o2 ho2 hon e2 he2 hb) hb2
/-- What i does to T where it may come ahead of one of L. -/
def Keeps (md : Region.Mode) (ops : Array Oper) (L : List Nat) (T : World → Prop) (i : Nat) (w w' : World) : Prop := (∃ k ∈ L, waits md ops ops.size i k = false) → T w → T w'
def WL (P : Program) (md : Region.Mode) (ops : Array Oper) (Q : Exit → Act → World → Prop) (L : List Nat) (T : World → Prop) : Nat → Array Bool → Act → World → Prop
  | 0, listed, a, w => Region.ready md ops listed = [] ∧ Q .normal a w
  | n + 1, listed, a, w => (Region.ready md ops listed = [] → Q .normal a w) ∧
    ∀ i ∈ Region.ready md ops listed, wpOp P ops Q i (fun a' w' => Keeps md ops L T i w w' ∧ WL P md ops Q L T n (listed.setIfInBounds i true) a' w') a w
theorem WL.any : ∀ (n : Nat) (listed : Array Bool) (a : Act) (w : World), WL P md ops Q L T n listed a w → wpAny P md ops Q n listed a w
  | 0, _, _, _, h => h
  | n + 1, listed, a, w, h => ⟨h.1, fun i hi => wpOp_mono (fun a' w' h' => WL.any n _ a' w' h'.2) (h.2 i hi)⟩
theorem WL.first {i : Nat} {oi : Oper} {v : Value} (hi : ops[i]? = some oi) (hsel : ∀ (j : Nat) (o : Oper) cs b, ops[j]? = some o → o.op ≠ .select cs b)
    (hQ : ∀ c a w, Q (.panic c) (a.put oi.dst v) w → Q (.panic c) a w) :
    ∀ (n : Nat) (listed : Array Bool) (a : Act) (w : World), Closed md ops listed →
      (∀ j oj, ops[j]? = some oj → j ≠ i → listed.getD j true = false → (∀ e ∈ oj.after, Region.binds md e = true → e.on ≠ i) → oi.apart ops oj = true) →
      i ∈ Region.ready md ops listed → YieldsIf P ops (fun w => i ∈ L → T w) oi v a → (i ∈ L → T w) →
      WL P md ops Q L T n (listed.setIfInBounds i true) (a.put oi.dst v) w → WL P md ops Q L T (n + 1) listed a w := by
  intro n
  induction n with
  | zero =>
    intro listed a w _ _ hr hy hS H
    refine ⟨fun h => (by rw [h] at hr; cases hr), fun j hj => ?_⟩
    by_cases hji : j = i
    · subst hji
      exact hy.wpOp hi hS ⟨fun _ h => h, H⟩
    · have := ready_mono hj hji
      rw [H.1] at this
      cases this
  | succ n ih =>
    intro listed a w hcl hfree hr hy hS H
    have hun := (mem_ready.1 hr).1
    refine ⟨fun h => (by rw [h] at hr; cases hr), fun j hj => ?_⟩
    by_cases hji : j = i
    · subst hji
      exact hy.wpOp hi hS ⟨fun _ h => h, H⟩
    · have h1 := H.2 j (ready_mono hj hji)
      obtain ⟨hjun, oj, hoj, hall⟩ := mem_ready.1 hj
      have hfl : listed.getD i false = false := by
        rcases Nat.lt_or_ge i listed.size with h' | h'
        · simp [h'] at hun ⊢; exact hun
        · simp [Array.getElem?_eq_none h']
      have hnot : ∀ e ∈ oj.after, Region.binds md e = true → e.on ≠ i := fun e he hb heq => by
        have g1 := hall e he hb
        rw [heq, hfl] at g1
        cases g1
      have hw : waits md ops ops.size j i = false := by
        cases hw : waits md ops ops.size j i with
        | false => rfl
        | true =>
          have := waits_done hcl ops.size j i (fun o ho e he hb => by rw [hoj] at ho; cases ho; exact hall e he hb) hw
          rw [hfl] at this
          cases this
      have hcl' : Closed md ops (listed.setIfInBounds j true) := fun k o ho hk e he hb => by
        by_cases hkj : j = k
        · subst hkj
          rw [hoj] at ho
          cases ho
          exact getD_set_true (hall e he hb)
        · rw [getD_set_ne false hkj] at hk
          exact getD_set_true (hcl k o ho hk e he hb)
      have hfree' : ∀ k ok, ops[k]? = some ok → k ≠ i → (listed.setIfInBounds j true).getD k true = false → (∀ e ∈ ok.after, Region.binds md e = true → e.on ≠ i) → oi.apart ops ok = true := fun k ok hk hki hkun hno => by
        refine hfree k ok hk hki ?_ hno
        by_cases hjk : j = k
        · subst hjk; exact hjun
        · rw [getD_set_ne true hjk] at hkun; exact hkun
      have h2 := wpOp_putIf hoj (hfree j oj hoj hji hjun hnot) (fun cs b => hsel i oi cs b hi) (fun cs b => hsel j oj cs b hoj) hQ hy h1
      refine wpOp_mono (fun a' w' h3 => ?_) h2
      obtain ⟨hy', hk, H'⟩ := h3
      refine ⟨hk, ih (listed.setIfInBounds j true) a' w' hcl' hfree' (ready_mono hr (Ne.symm hji)) hy' (fun hL => hk ⟨i, hL, hw⟩ (hS hL)) ?_⟩
      rw [Array.setIfInBounds_comm _ _ hji]
      exact H'
/-- Number i is taken first. -/
theorem WL.take {i : Nat} {oi : Oper} {v : Value} {n : Nat} {listed : Array Bool} {a : Act} {w : World} (hi : ops[i]? = some oi)
    (hs : Region.noSelect ops = true) (hf : Region.free md ops listed i = true) (hr : (Region.ready md ops listed).contains i = true) (hc : closedB md ops listed = true)
    (hQ : ∀ c a w, Q (.panic c) (a.put oi.dst v) w → Q (.panic c) a w) (hy : YieldsIf P ops (fun w => i ∈ L → T w) oi v a) (hS : T w)
    (h : WL P md ops Q L T n (listed.setIfInBounds i true) (a.put oi.dst v) w) : WL P md ops Q L T (n + 1) listed a w :=
  WL.first hi (Region.noSelect_spec hs) hQ n listed a w (closed_of hc) (Region.free_spec hi hf) (by simpa using hr) hy (fun _ => hS) h
/-- What comes up alone, and waits for all of L. -/
theorem WL.late {i : Nat} {o : Oper} {n : Nat} {listed : Array Bool} {a : Act} {w : World} (hr : Region.ready md ops listed = [i]) (ho : ops[i]? = some o) (hall : (L.all fun k => waits md ops ops.size i k) = true)
    (h : ∀ K : Act → World → Prop, Go.RowKit.Hid (∀ a w, WL P md ops Q L T n (listed.setIfInBounds i true) a w → K a w) → if Region.wanted o (yielded ops a.tmps) = true then Oper.wp P o a w K Q else K (a.put o.dst undef) w) : WL P md ops Q L T (n + 1) listed a w := by
  refine ⟨fun h0 => (by rw [hr] at h0; cases h0), fun j hj => ?_⟩
  rw [hr] at hj
  have hj : j = i := by simpa using hj
  subst hj
  exact wpOp_step ho (fun K' hK => h K' (Go.Lib.hid (fun a w hW => hK a w ⟨fun ⟨k, hk, hf⟩ => (by have := List.all_eq_true.1 hall k hk; rw [hf] at this; cases this), hW⟩)))
/-- What comes up alone. -/
theorem WL.one {i : Nat} {o : Oper} {n : Nat} {listed : Array Bool} {a : Act} {w : World} (hr : Region.ready md ops listed = [i]) (ho : ops[i]? = some o)
    (h : ∀ K : Act → World → Prop, Go.RowKit.Hid (∀ a w', (T w → T w') → WL P md ops Q L T n (listed.setIfInBounds i true) a w' → K a w') → if Region.wanted o (yielded ops a.tmps) = true then Oper.wp P o a w K Q else K (a.put o.dst undef) w) : WL P md ops Q L T (n + 1) listed a w := by
  refine ⟨fun h0 => (by rw [hr] at h0; cases h0), fun j hj => ?_⟩
  rw [hr] at hj
  have hj : j = i := by simpa using hj
  subst hj
  exact wpOp_step ho (fun K' hK => h K' (Go.Lib.hid (fun a w' hT hW => hK a w' ⟨fun _ => hT, hW⟩)))
/-- One of two comes up. -/
theorem WL.two {i j : Nat} {o o2 : Oper} {n : Nat} {listed : Array Bool} {a : Act} {w : World} (hr : Region.ready md ops listed = [i, j]) (ho : ops[i]? = some o) (ho2 : ops[j]? = some o2)
    (h : ∀ K : Act → World → Prop, Go.RowKit.Hid (∀ a w', (T w → T w') → WL P md ops Q L T n (listed.setIfInBounds i true) a w' → K a w') → if Region.wanted o (yielded ops a.tmps) = true then Oper.wp P o a w K Q else K (a.put o.dst undef) w)
    (h2 : ∀ K : Act → World → Prop, Go.RowKit.Hid (∀ a w', (T w → T w') → WL P md ops Q L T n (listed.setIfInBounds j true) a w' → K a w') → if Region.wanted o2 (yielded ops a.tmps) = true then Oper.wp P o2 a w K Q else K (a.put o2.dst undef) w) : WL P md ops Q L T (n + 1) listed a w := by
  refine ⟨fun h0 => (by rw [hr] at h0; cases h0), fun k hk => ?_⟩
  rw [hr] at hk
  have hk : k = i ∨ k = j := by simpa using hk
  rcases hk with rfl | rfl
  · exact wpOp_step ho (fun K' hK => h K' (Go.Lib.hid (fun a w' hT hW => hK a w' ⟨fun _ => hT, hW⟩)))
  · exact wpOp_step ho2 (fun K' hK => h2 K' (Go.Lib.hid (fun a w' hT hW => hK a w' ⟨fun _ => hT, hW⟩)))
theorem WL.done {listed : Array Bool} {a : Act} {w : World} (hr : Region.ready md ops listed = []) (h : Q .normal a w) : ∀ n, WL P md ops Q L T n listed a w
  | 0 => ⟨hr, h⟩
  | _ + 1 => ⟨fun _ => h, by rw [hr]; simp⟩
theorem wp_region_late {id : Nat} {a : Act} {w : World} (L : List Nat) (T : World → Prop) (hm : P.follows .mixedOrders = true) (hS : T w.drew)
    (h : T w.drew → WL P .any ops Q L T ops.size (Array.replicate ops.size false) a w.drew) : (Code.region id ops true).wp P Q a w :=
  wp_region_any hm (WL.any _ _ _ _ (h hS))
end
end Go.Proofs.Ytejmklfhcealnaa.F
