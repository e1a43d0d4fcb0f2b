/- A call that changes nothing, in a region that draws its order, is taken first. -/
import Derived.Test.YtejmklfhcealnaaRl
set_option linter.unusedVariables false
set_option linter.unusedSimpArgs false
namespace Go.Proofs.Ytejmklfhcealnaa.F

section
variable {P : Program} {md : Region.Mode} {ops : Array Oper} {Q : Exit → Act → World → Prop} {L : List Nat} {T : World → Prop}
/-- In whatever world that meets S the call answers v, and leaves the world as it is. -/
def YC (P : Program) (ops : Array Oper) (S : World → Prop) (o : Oper) (v : Value) (a : Act) : Prop :=
  Region.wanted o (yielded ops a.tmps) = true ∧ ∃ f args, ∀ w, S w → (execOp a.eval o).run P w = .ok (.enter f args) w ∧ Calls P f args w fun e w' => e = .returned v ∧ w' = w
theorem YC.wpOp {S : World → Prop} {i : Nat} {o : Oper} {v : Value} {a : Act} (hi : ops[i]? = some o) (hy : YC P ops S o v a) {K : Act → World → Prop} {w : World} (hS : S w) (h : K (a.put o.dst v) w) : wpOp P ops Q i K a w := by
  obtain ⟨hw, f, args, hc⟩ := hy
  obtain ⟨h1, h2⟩ := hc w hS
  unfold Go.wpOp
  simp only [hi, hw, if_true, Oper.wp, h1, Oper.upon]
  refine .inl (h2.mono ?_)
  rintro e w' ⟨rfl, rfl⟩
  exact h
theorem YC.same {S : World → Prop} {o : Oper} {v : Value} {a a' : Act} (hy : YC P ops S o v a) (he : execOp a'.eval o = execOp a.eval o) (hw : Region.wanted o (yielded ops a'.tmps) = Region.wanted o (yielded ops a.tmps)) : YC P ops S o v a' := by
  unfold YC at *
  rw [he, hw]
  exact hy
/-- What is apart from it comes to the same behind it. -/
theorem YC.putIf {S : World → Prop} {j : Nat} {oi oj : Oper} {v : Value} (hj : ops[j]? = some oj) (hap : oi.apart ops oj = true) (hsi : ∀ cs b, oi.op ≠ .select cs b) (hsj : ∀ cs b, oj.op ≠ .select cs b)
    (hQ : ∀ c a w, Q (.panic c) (a.put oi.dst v) w → Q (.panic c) a w) {K : Act → World → Prop} {a : Act} {w : World} (hy : YC P ops S oi v a) (h : Go.wpOp P ops Q j K (a.put oi.dst v) w) :
    Go.wpOp P ops Q j (fun a' w' => YC P ops S oi v a' ∧ K (a'.put oi.dst v) w') a w := by
  obtain ⟨h1, h2, h3⟩ := Oper.apart_spec hap
  have stay : ∀ (a : Act), YC P ops S oi v a → ∀ u, YC P ops S oi v (a.put oj.dst u) := fun a hy u => hy.same (execOp_put oi hsi a oj.dst u h3) (wanted_put oi a oj.dst u h3)
  have stayD : ∀ d, YC P ops S oi v { a with defers := d :: a.defers } := fun d => hy.same rfl rfl
  have swap : ∀ (a : Act) (u : Value), (a.put oi.dst v).put oj.dst u = (a.put oj.dst u).put oi.dst v := fun a u => Act.put_comm a v u h2
  unfold Go.wpOp at *
  simp only [hj] at *
  rw [wanted_put oj a oi.dst v h1] at h
  by_cases hw : Region.wanted oj (yielded ops a.tmps) = true
  · rw [if_pos hw] at h ⊢
    rcases h with h | ⟨ha, hl⟩
    · left
      unfold Oper.wp at *
      rw [execOp_put oj hsj a oi.dst v h1] at h
      cases hr : (execOp a.eval oj).run P w with
      | ok n w' =>
        rw [hr] at h
        cases n with
        | value u => exact ⟨stay a hy u, by rw [← swap]; exact h⟩
        | skip => exact ⟨stay a hy _, by rw [← swap]; exact h⟩
        | defer d => exact ⟨stay _ (stayD d) _, by rw [← Act.put_comm _ v undef h2, ← Act.put_defers]; exact h⟩
        | enter f args =>
          refine Calls.mono h fun e w'' he => ?_
          cases e with
          | returned u => exact ⟨stay a hy u, by rw [← swap]; exact he⟩
          | panicked c => exact hQ _ _ _ he
          | outgrown => exact he
        | row r args => exact Rows.mono h fun u w'' he => ⟨stay a hy u, by rw [← swap]; exact he⟩
        | _ => exact h
      | halt x w' =>
        rw [hr] at h
        cases x with
        | panic u => exact hQ _ _ _ h
        | _ => exact h
    · right
      unfold Oper.asks at *
      rw [execOp_put oj hsj a oi.dst v h1] at ha
      exact ⟨ha, hl⟩
  · rw [if_neg hw] at h ⊢
    exact ⟨stay a hy _, by rw [← swap]; exact h⟩
theorem WL.firstC {i : Nat} {oi : Oper} {v : Value} (hi : ops[i]? = some oi) (hsel : ∀ (j : Nat) (o : Oper) cs b, ops[j]? = some o → o.op ≠ .select cs b)
    (hQ : ∀ c a w, Q (.panic c) (a.put oi.dst v) w → Q (.panic c) a w) :
    ∀ (n : Nat) (listed : Array Bool) (a : Act) (w : World), Closed md ops listed →
      (∀ j oj, ops[j]? = some oj → j ≠ i → listed.getD j true = false → (∀ e ∈ oj.after, Region.binds md e = true → e.on ≠ i) → oi.apart ops oj = true) →
      i ∈ Region.ready md ops listed → YC P ops (fun w => i ∈ L → T w) oi v a → (i ∈ L → T w) →
      WL P md ops Q L T n (listed.setIfInBounds i true) (a.put oi.dst v) w → WL P md ops Q L T (n + 1) listed a w := by
  intro n
  induction n with
  | zero =>
    intro listed a w _ _ hr hy hS H
    refine ⟨fun h => (by rw [h] at hr; cases hr), fun j hj => ?_⟩
    by_cases hji : j = i
    · subst hji
      exact hy.wpOp hi hS ⟨fun _ h => h, H⟩
    · have := ready_mono hj hji
      rw [H.1] at this
      cases this
  | succ n ih =>
    intro listed a w hcl hfree hr hy hS H
    have hun := (mem_ready.1 hr).1
    refine ⟨fun h => (by rw [h] at hr; cases hr), fun j hj => ?_⟩
    by_cases hji : j = i
    · subst hji
      exact hy.wpOp hi hS ⟨fun _ h => h, H⟩
    · have h1 := H.2 j (ready_mono hj hji)
      obtain ⟨hjun, oj, hoj, hall⟩ := mem_ready.1 hj
      have hfl : listed.getD i false = false := by
        rcases Nat.lt_or_ge i listed.size with h' | h'
        · simp [h'] at hun ⊢; exact hun
        · simp [Array.getElem?_eq_none h']
      have hnot : ∀ e ∈ oj.after, Region.binds md e = true → e.on ≠ i := fun e he hb heq => by
        have g1 := hall e he hb
        rw [heq, hfl] at g1
        cases g1
      have hw : waits md ops ops.size j i = false := by
        cases hw : waits md ops ops.size j i with
        | false => rfl
        | true =>
          have := waits_done hcl ops.size j i (fun o ho e he hb => by rw [hoj] at ho; cases ho; exact hall e he hb) hw
          rw [hfl] at this
          cases this
      have hcl' : Closed md ops (listed.setIfInBounds j true) := fun k o ho hk e he hb => by
        by_cases hkj : j = k
        · subst hkj
          rw [hoj] at ho
          cases ho
          exact getD_set_true (hall e he hb)
        · rw [getD_set_ne false hkj] at hk
          exact getD_set_true (hcl k o ho hk e he hb)
      have hfree' : ∀ k ok, ops[k]? = some ok → k ≠ i → (listed.setIfInBounds j true).getD k true = false → (∀ e ∈ ok.after, Region.binds md e = true → e.on ≠ i) → oi.apart ops ok = true := fun k ok hk hki hkun hno => by
        refine hfree k ok hk hki ?_ hno
        by_cases hjk : j = k
        · subst hjk; exact hjun
        · rw [getD_set_ne true hjk] at hkun; exact hkun
      have h2 := YC.putIf hoj (hfree j oj hoj hji hjun hnot) (fun cs b => hsel i oi cs b hi) (fun cs b => hsel j oj cs b hoj) hQ hy h1
      refine wpOp_mono (fun a' w' h3 => ?_) h2
      obtain ⟨hy', hk, H'⟩ := h3
      refine ⟨hk, ih (listed.setIfInBounds j true) a' w' hcl' hfree' (ready_mono hr (Ne.symm hji)) hy' (fun hL => hk ⟨i, hL, hw⟩ (hS hL)) ?_⟩
      rw [Array.setIfInBounds_comm _ _ hji]
      exact H'
/-- Call number i, which changes nothing, is taken first. -/
theorem WL.quiet {i : Nat} {oi : Oper} {v : Value} {n : Nat} {listed : Array Bool} {a : Act} {w : World} (hi : ops[i]? = some oi)
    (hs : Region.noSelect ops = true) (hf : Region.free md ops listed i = true) (hr : (Region.ready md ops listed).contains i = true) (hc : closedB md ops listed = true)
    (hQ : ∀ c a w, Q (.panic c) (a.put oi.dst v) w → Q (.panic c) a w) (hy : YC P ops (fun w => i ∈ L → T w) oi v a) (hS : T w)
    (h : WL P md ops Q L T n (listed.setIfInBounds i true) (a.put oi.dst v) w) : WL P md ops Q L T (n + 1) listed a w :=
  WL.firstC hi (Region.noSelect_spec hs) hQ n listed a w (closed_of hc) (Region.free_spec hi hf) (by simpa using hr) hy (fun _ => hS) h
/-- Such a call of one function, one argument. -/
theorem YC.of1 {S : World → Prop} {o : Oper} {v x : Value} {a : Act} {f : FuncId} {t : TypeId} {y : Operand} (hw : Region.wanted o (yielded ops a.tmps) = true) (ho : o.op = .call { callee := .value (.func f), args := #[y], argTypes := #[t] }) (hx : a.eval y = x) (hcf : ∀ w, Sem.run P (callFunc f #[x]) w = .ok (.enter f #[x]) w)
    (hc : ∀ w, S w → Calls P f #[x] w fun e w' => e = .returned v ∧ w' = w) : YC P ops S o v a :=
  ⟨hw, f, #[x], fun w hS => ⟨by
    unfold execOp
    simp only [ho, resolve, List.map_toArray, List.map_cons, List.map_nil, hx]
    simp [Deferred.ofValue, Act.eval, invoke]
    exact hcf w, hc w hS⟩⟩
end
end Go.Proofs.Ytejmklfhcealnaa.F
