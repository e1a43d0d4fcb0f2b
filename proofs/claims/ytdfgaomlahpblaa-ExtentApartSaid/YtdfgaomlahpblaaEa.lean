/- The plain law of extent: runs of free sectors, and a truth for each sector. -/
import Derived.Lib.Hide
set_option linter.unusedVariables false
set_option linter.unusedSimpArgs false
namespace Go.Proofs.Ytdfgaomlahpblaa.F

/-- A run: where it begins, how many sectors it has. -/
abbrev Rn := Nat × Nat
/-- Is a sector in a run? -/
def Rn.has (r : Rn) (x : Nat) : Prop := r.1 ≤ x ∧ x < r.1 + r.2
/-- Is a sector in one of some runs? -/
def cov (l : List Rn) (x : Nat) : Prop := ∃ r ∈ l, Rn.has r x
/-- Runs in order, none empty, a gap between each two. -/
def Norm (l : List Rn) : Prop := l.Pairwise (fun a b => a.1 + a.2 < b.1) ∧ ∀ r ∈ l, 0 < r.2

theorem cov_nil (x : Nat) : ¬ cov [] x := fun ⟨_, h, _⟩ => by simp at h
theorem cov_cons (r : Rn) (l : List Rn) (x : Nat) : cov (r :: l) x ↔ Rn.has r x ∨ cov l x := by
  unfold cov
  simp
theorem cov_append (l m : List Rn) (x : Nat) : cov (l ++ m) x ↔ cov l x ∨ cov m x := by
  unfold cov
  simp only [List.mem_append]
  exact ⟨fun ⟨r, h, hx⟩ => h.elim (fun h => .inl ⟨r, h, hx⟩) (fun h => .inr ⟨r, h, hx⟩), fun h => h.elim (fun ⟨r, h, hx⟩ => ⟨r, .inl h, hx⟩) (fun ⟨r, h, hx⟩ => ⟨r, .inr h, hx⟩)⟩
theorem Norm.nil : Norm [] := ⟨List.Pairwise.nil, fun r h => by simp at h⟩
theorem Norm.tail {r : Rn} {l : List Rn} (h : Norm (r :: l)) : Norm l := ⟨(List.pairwise_cons.1 h.1).2, fun q hq => h.2 q (by simp [hq])⟩
theorem Norm.gap {r : Rn} {l : List Rn} (h : Norm (r :: l)) : ∀ q ∈ l, r.1 + r.2 < q.1 := (List.pairwise_cons.1 h.1).1
theorem Norm.head {r : Rn} {l : List Rn} (h : Norm (r :: l)) : 0 < r.2 := h.2 r (by simp)
theorem Norm.cons {r : Rn} {l : List Rn} (h : Norm l) (h1 : 0 < r.2) (h2 : ∀ q ∈ l, r.1 + r.2 < q.1) : Norm (r :: l) :=
  ⟨List.pairwise_cons.2 ⟨h2, h.1⟩, fun q hq => by
    rcases List.mem_cons.1 hq with rfl | hq
    · exact h1
    · exact h.2 q hq⟩
theorem Norm.append {l m : List Rn} : Norm (l ++ m) ↔ Norm l ∧ Norm m ∧ ∀ a ∈ l, ∀ b ∈ m, a.1 + a.2 < b.1 := by
  unfold Norm
  rw [List.pairwise_append]
  constructor
  · rintro ⟨⟨h1, h2, h3⟩, h4⟩
    exact ⟨⟨h1, fun r hr => h4 r (by simp [hr])⟩, ⟨h2, fun r hr => h4 r (by simp [hr])⟩, h3⟩
  · rintro ⟨⟨h1, h4⟩, ⟨h2, h5⟩, h3⟩
    refine ⟨⟨h1, h2, h3⟩, fun r hr => ?_⟩
    rcases List.mem_append.1 hr with h | h
    · exact h4 r h
    · exact h5 r h
/-- What lies ahead of the first run is not covered. -/
theorem Norm.low {r : Rn} {l : List Rn} (h : Norm (r :: l)) {x : Nat} (hx : cov (r :: l) x) : r.1 ≤ x := by
  rcases (cov_cons r l x).1 hx with h1 | ⟨q, hq, h1⟩
  · exact h1.1
  · have := h.gap q hq
    have := h1.1
    omega
theorem Norm.past {r : Rn} {l : List Rn} (h : Norm (r :: l)) : ¬ cov (r :: l) (r.1 + r.2) := fun hx => by
  rcases (cov_cons r l _).1 hx with h1 | ⟨q, hq, h1⟩
  · have := h1.2; omega
  · have := h.gap q hq
    have := h1.1
    omega
/-- Two normal lists that cover the same are the same. -/
theorem Norm.uniq : ∀ {l m : List Rn}, Norm l → Norm m → (∀ x, cov l x ↔ cov m x) → l = m
  | [], [], _, _, _ => rfl
  | [], q :: m, _, hm, h => absurd ((h q.1).2 ((cov_cons q m _).2 (.inl ⟨Nat.le_refl _, by have := hm.head; omega⟩))) (cov_nil _)
  | r :: l, [], hl, _, h => absurd ((h r.1).1 ((cov_cons r l _).2 (.inl ⟨Nat.le_refl _, by have := hl.head; omega⟩))) (cov_nil _)
  | r :: l, q :: m, hl, hm, h => by
    have p1 := hl.head
    have p2 := hm.head
    have a1 : q.1 ≤ r.1 := hm.low ((h r.1).1 ((cov_cons r l _).2 (.inl ⟨Nat.le_refl _, by omega⟩)))
    have a2 : r.1 ≤ q.1 := hl.low ((h q.1).2 ((cov_cons q m _).2 (.inl ⟨Nat.le_refl _, by omega⟩)))
    have b1 : ¬ r.2 < q.2 := fun hlt => hl.past ((h _).2 ((cov_cons q m _).2 (.inl ⟨by omega, by omega⟩)))
    have b2 : ¬ q.2 < r.2 := fun hlt => hm.past ((h _).1 ((cov_cons r l _).2 (.inl ⟨by omega, by omega⟩)))
    have e : r = q := Prod.ext (by omega) (by omega)
    subst e
    have ih := Norm.uniq hl.tail hm.tail (fun x => by
      constructor
      · intro hx
        have h1 := (h x).1 ((cov_cons r l x).2 (.inr hx))
        rcases (cov_cons r m x).1 h1 with h2 | h2
        · obtain ⟨s, hs, hsx⟩ := hx
          have := hl.gap s hs
          have := hsx.1
          have := h2.2
          omega
        · exact h2
      · intro hx
        have h1 := (h x).2 ((cov_cons r m x).2 (.inr hx))
        rcases (cov_cons r l x).1 h1 with h2 | h2
        · obtain ⟨s, hs, hsx⟩ := hx
          have := hm.gap s hs
          have := hsx.1
          have := h2.2
          omega
        · exact h2)
    rw [ih]

/-- The document's runs of a row of truths, from the i-th on; b: is the one ahead free? -/
def rstep (f : Nat) (T : List Bool) (out : List Rn) (i : Nat) : List Rn :=
  if T.getD i true then out
  else if 0 < i ∧ T.getD (i - 1) true = false then out.dropLast ++ [((out.getLastD (0, 0)).1, (out.getLastD (0, 0)).2 + 1)]
  else out ++ [(f + i, 1)]
def runsTo (f : Nat) (T : List Bool) : Nat → List Rn
  | 0 => []
  | i + 1 => rstep f T (runsTo f T i) i
def runsOf (f : Nat) (T : List Bool) : List Rn := runsTo f T T.length
/-- Which sectors are free, below the i-th. -/
def freeTo (f : Nat) (T : List Bool) (i x : Nat) : Prop := ∃ j, j < i ∧ x = f + j ∧ T.getD j true = false
theorem runsTo_ok (f : Nat) (T : List Bool) : ∀ i, Norm (runsTo f T i) ∧ (∀ x, cov (runsTo f T i) x ↔ freeTo f T i x) ∧ (0 < i → T.getD (i - 1) true = false → ∃ l r, runsTo f T i = l ++ [r] ∧ r.1 + r.2 = f + i)
  | 0 => ⟨Norm.nil, fun x => ⟨fun h => absurd h (cov_nil x), fun ⟨j, h, _⟩ => by omega⟩, fun h => by omega⟩
  | i + 1 => by
    obtain ⟨hn, hc, hl⟩ := runsTo_ok f T i
    have hsp : ∀ x, freeTo f T (i + 1) x ↔ freeTo f T i x ∨ (x = f + i ∧ T.getD i true = false) := fun x => by
      constructor
      · rintro ⟨j, h1, h2, h3⟩
        by_cases e : j = i
        · subst e; exact .inr ⟨h2, h3⟩
        · exact .inl ⟨j, by omega, h2, h3⟩
      · rintro (⟨j, h1, h2, h3⟩ | ⟨h1, h2⟩)
        · exact ⟨j, by omega, h2, h3⟩
        · exact ⟨i, by omega, h1, h2⟩
    show Norm (rstep f T (runsTo f T i) i) ∧ (∀ x, cov (rstep f T (runsTo f T i) i) x ↔ _) ∧ (_ → _ → ∃ l r, rstep f T (runsTo f T i) i = _ ∧ _)
    unfold rstep
    cases ht : T.getD i true with
    | true =>
      rw [if_pos rfl]
      refine ⟨hn, fun x => ?_, fun _ h => ?_⟩
      · rw [hc, hsp, ht]
        simp
      · rw [Nat.add_sub_cancel, ht] at h
        cases h
    | false =>
      rw [if_neg (by simp)]
      by_cases hp : 0 < i ∧ T.getD (i - 1) true = false
      · rw [if_pos hp]
        obtain ⟨l, r, e, hr⟩ := hl hp.1 hp.2
        rw [e] at hn hc ⊢
        obtain ⟨n1, n2, n3⟩ := Norm.append.1 hn
        have hd : (l ++ [r]).dropLast = l := by simp
        have hg : (l ++ [r]).getLastD (0, 0) = r := by simp [List.getLastD_eq_getLast?]
        rw [hd, hg]
        have hr2 := n2.head
        refine ⟨Norm.append.2 ⟨n1, ⟨by simp, by simp⟩, fun a ha b hb => ?_⟩, fun x => ?_, fun _ _ => ⟨l, _, rfl, by simp; omega⟩⟩
        · have := n3 a ha r (by simp)
          simp at hb
          subst hb
          exact this
        · rw [hsp, ← hc, cov_append, cov_append, cov_cons, cov_cons]
          have c0 := cov_nil x
          unfold Rn.has
          simp only [ht, and_true]
          constructor
          · rintro (h | h | h)
            · exact .inl (.inl h)
            · by_cases e2 : x = f + i
              · exact .inr e2
              · exact .inl (.inr (.inl ⟨h.1, by have := h.2; (try simp at this); omega⟩))
            · exact absurd h c0
          · rintro ((h | h | h) | h)
            · exact .inl h
            · exact .inr (.inl ⟨h.1, by have := h.2; (try simp); omega⟩)
            · exact absurd h c0
            · exact .inr (.inl ⟨by (try simp); omega, by (try simp); omega⟩)
      · rw [if_neg hp]
        have hgap : ∀ a ∈ runsTo f T i, a.1 + a.2 < f + i := fun a ha => by
          have hpos := hn.2 a ha
          have h1 := (hc (a.1 + a.2 - 1)).1 ⟨a, ha, by unfold Rn.has; omega⟩
          obtain ⟨j, hj, hx, hf⟩ := h1
          rcases Nat.lt_or_ge (j + 1) i with h | h
          · omega
          · obtain rfl : j = i - 1 := by omega
            exact absurd ⟨by omega, hf⟩ hp
        refine ⟨Norm.append.2 ⟨hn, ⟨by simp, by simp⟩, fun a ha b hb => ?_⟩, fun x => ?_, fun _ _ => ⟨_, _, rfl, by simp; omega⟩⟩
        · simp at hb
          subst hb
          exact hgap a ha
        · rw [hsp, ← hc, cov_append, cov_cons]
          have c0 := cov_nil x
          unfold Rn.has
          simp only [ht, and_true]
          constructor
          · rintro (h | h | h)
            · exact .inl h
            · exact .inr (by have := h.1; have := h.2; simp at *; omega)
            · exact absurd h c0
          · rintro (h | h)
            · exact .inl h
            · exact .inr (.inl (by constructor <;> (try simp) <;> omega))
/-- The runs are those of the truths. -/
def Rel (f : Nat) (T : List Bool) (l : List Rn) : Prop := Norm l ∧ ∀ x, cov l x ↔ freeTo f T T.length x
theorem Rel.eq {f : Nat} {T : List Bool} {l : List Rn} (h : Rel f T l) : l = runsOf f T :=
  h.1.uniq (runsTo_ok f T T.length).1 (fun x => (h.2 x).trans ((runsTo_ok f T T.length).2.1 x).symm)
theorem Rel.of (f : Nat) (T : List Bool) : Rel f T (runsOf f T) := ⟨(runsTo_ok f T T.length).1, (runsTo_ok f T T.length).2.1⟩
theorem Rel.bd {f : Nat} {T : List Bool} {l : List Rn} (h : Rel f T l) : ∀ r ∈ l, f ≤ r.1 ∧ r.1 + r.2 ≤ f + T.length ∧ 0 < r.2 := fun r hr => by
  have hp := h.1.2 r hr
  obtain ⟨j, hj, hx, _⟩ := (h.2 r.1).1 ⟨r, hr, by unfold Rn.has; omega⟩
  obtain ⟨j2, hj2, hx2, _⟩ := (h.2 (r.1 + r.2 - 1)).1 ⟨r, hr, by unfold Rn.has; omega⟩
  omega
theorem Norm.sub_len {l : List Rn} (h : Norm l) : ∀ (a b : Nat), (∀ r ∈ l, a ≤ r.1 ∧ r.1 + r.2 ≤ b) → l ≠ [] → l.length ≤ b - a := by
  induction l with
  | nil => intro a b _ h0; exact absurd rfl h0
  | cons r l ih =>
    intro a b hb _
    have hr := hb r (by simp)
    have hp := h.head
    by_cases hl : l = []
    · subst hl; simp; omega
    · have := ih h.tail (r.1 + r.2) b (fun q hq => ⟨by have := h.gap q hq; omega, (hb q (by simp [hq])).2⟩) hl
      have : ∃ q, q ∈ l := List.exists_mem_of_ne_nil _ hl
      obtain ⟨q, hq⟩ := this
      have := h.gap q hq
      have := (hb q (by simp [hq])).2
      have := h.2 q (by simp [hq])
      simp
      omega
theorem Rel.len {f : Nat} {T : List Bool} {l : List Rn} (h : Rel f T l) : l.length ≤ T.length := by
  by_cases hl : l = []
  · subst hl; simp
  · have := h.1.sub_len f (f + T.length) (fun r hr => ⟨(h.bd r hr).1, (h.bd r hr).2.1⟩) hl
    omega
/-- Sectors set so. -/
def setT (T : List Bool) (at' n : Nat) (b : Bool) : List Bool := T.mapIdx fun i x => if at' ≤ i ∧ i - at' < n then b else x
theorem setT_len (T : List Bool) (a n : Nat) (b : Bool) : (setT T a n b).length = T.length := by simp [setT]
theorem setT_get (T : List Bool) (a n : Nat) (b : Bool) (i : Nat) (h : i < T.length) : (setT T a n b).getD i true = if a ≤ i ∧ i - a < n then b else T.getD i true := by
  simp [setT, List.getD_eq_getElem?_getD, h]
theorem freeTo_set (f : Nat) (T : List Bool) (a n : Nat) (b : Bool) (x : Nat) : freeTo f (setT T a n b) (setT T a n b).length x ↔ (∃ j, j < T.length ∧ x = f + j ∧ (if a ≤ j ∧ j - a < n then b else T.getD j true) = false) := by
  unfold freeTo
  rw [setT_len]
  exact ⟨fun ⟨j, h1, h2, h3⟩ => ⟨j, h1, h2, by rwa [setT_get _ _ _ _ _ h1] at h3⟩, fun ⟨j, h1, h2, h3⟩ => ⟨j, h1, h2, by rwa [setT_get _ _ _ _ _ h1]⟩⟩

/-- A part cut out of a run. -/
def pieces (r : Rn) (a n : Nat) : List Rn := (if r.1 < a then [(r.1, a - r.1)] else []) ++ (if a + n < r.1 + r.2 then [(a + n, r.1 + r.2 - (a + n))] else [])
def cutL (l : List Rn) (i a n : Nat) : List Rn := l.take i ++ pieces (l.getD i (0, 0)) a n ++ l.drop (i + 1)
theorem split_at (l : List Rn) (i : Nat) (h : i < l.length) : l = l.take i ++ l.getD i (0, 0) :: l.drop (i + 1) := by
  rw [show l.getD i (0, 0) = l[i] by simp [List.getD_eq_getElem?_getD, h]]
  rw [← List.drop_eq_getElem_cons h, List.take_append_drop]
theorem pieces_ok (r : Rn) (a n : Nat) (h1 : r.1 ≤ a) (h2 : a + n ≤ r.1 + r.2) (hn : 0 < n) : Norm (pieces r a n) ∧ (∀ x, cov (pieces r a n) x ↔ Rn.has r x ∧ ¬ (a ≤ x ∧ x < a + n)) ∧ ∀ q ∈ pieces r a n, r.1 ≤ q.1 ∧ q.1 + q.2 ≤ r.1 + r.2 := by
  unfold pieces
  by_cases c1 : r.1 < a
  · by_cases c2 : a + n < r.1 + r.2
    · rw [if_pos c1, if_pos c2]
      refine ⟨⟨by simp; omega, by simp; omega⟩, fun x => ?_, by simp; omega⟩
      simp only [List.cons_append, List.nil_append, cov_cons, Rn.has]
      have := cov_nil x
      simp only [this, or_false]
      omega
    · rw [if_pos c1, if_neg c2]
      refine ⟨⟨by simp, by simp; omega⟩, fun x => ?_, by simp; omega⟩
      simp only [List.append_nil, cov_cons, Rn.has]
      have := cov_nil x
      simp only [this, or_false]
      omega
  · by_cases c2 : a + n < r.1 + r.2
    · rw [if_neg c1, if_pos c2]
      refine ⟨⟨by simp, by simp; omega⟩, fun x => ?_, by simp; omega⟩
      simp only [List.nil_append, cov_cons, Rn.has]
      have := cov_nil x
      simp only [this, or_false]
      omega
    · rw [if_neg c1, if_neg c2]
      refine ⟨Norm.nil, fun x => ?_, by simp⟩
      have := cov_nil x
      simp only [List.append_nil, Rn.has]
      constructor
      · intro h; exact absurd h this
      · intro h; omega
theorem cut_ok {l : List Rn} (i a n : Nat) (hl : Norm l) (hi : i < l.length) (h1 : (l.getD i (0, 0)).1 ≤ a) (h2 : a + n ≤ (l.getD i (0, 0)).1 + (l.getD i (0, 0)).2) (hn : 0 < n) :
    Norm (cutL l i a n) ∧ ∀ x, cov (cutL l i a n) x ↔ cov l x ∧ ¬ (a ≤ x ∧ x < a + n) := by
  obtain ⟨r, hr⟩ : ∃ r, l.getD i (0, 0) = r := ⟨_, rfl⟩
  have hs := split_at l i hi
  unfold cutL
  rw [hr] at h1 h2 hs ⊢
  obtain ⟨p, hp⟩ : ∃ p, l.take i = p := ⟨_, rfl⟩
  obtain ⟨s, hsd⟩ : ∃ s, l.drop (i + 1) = s := ⟨_, rfl⟩
  rw [hp, hsd] at hs ⊢
  rw [hs] at hl ⊢
  obtain ⟨n1, n2, n3⟩ := Norm.append.1 hl
  obtain ⟨o1, o2, o3⟩ := pieces_ok r a n h1 h2 hn
  refine ⟨Norm.append.2 ⟨Norm.append.2 ⟨n1, o1, fun x hx q hq => ?_⟩, n2.tail, fun x hx q hq => ?_⟩, fun x => ?_⟩
  · have := n3 x hx r (by simp)
    have := o3 q hq
    omega
  · have g := n2.gap q hq
    rcases List.mem_append.1 hx with hx | hx
    · have := n3 x hx q (by simp [hq])
      omega
    · have := o3 x hx
      omega
  · rw [cov_append, cov_append, cov_append, cov_cons, o2]
    constructor
    · rintro ((h | h) | h)
      · refine ⟨.inl h, fun hx => ?_⟩
        obtain ⟨q, hq, hqx⟩ := h
        have := n3 q hq r (by simp)
        have := hqx.2
        omega
      · exact ⟨.inr (.inl h.1), h.2⟩
      · refine ⟨.inr (.inr h), fun hx => ?_⟩
        obtain ⟨q, hq, hqx⟩ := h
        have := n2.gap q hq
        have := hqx.1
        omega
    · rintro ⟨h | h | h, hx⟩
      · exact .inl (.inl h)
      · exact .inl (.inr ⟨h, hx⟩)
      · exact .inr h
/-- All sectors of a run are covered just if one run holds it. -/
theorem Norm.within {l : List Rn} (h : Norm l) {a n : Nat} (hn : 0 < n) (hc : ∀ x, a ≤ x → x < a + n → cov l x) : ∃ r ∈ l, r.1 ≤ a ∧ a + n ≤ r.1 + r.2 := by
  obtain ⟨r, hr, hx⟩ := hc a (Nat.le_refl _) (by omega)
  refine ⟨r, hr, hx.1, ?_⟩
  by_cases he : a + n ≤ r.1 + r.2
  · exact he
  · exfalso
    have := hx.2
    obtain ⟨q, hq, hqx⟩ := hc (r.1 + r.2) (by omega) (by omega)
    have hpw := h.1
    obtain ⟨i, hi, rfl⟩ := List.getElem_of_mem hr
    obtain ⟨j, hj, rfl⟩ := List.getElem_of_mem hq
    have hp := List.pairwise_iff_getElem.1 hpw
    have q1 := hqx.1
    have q2 := hqx.2
    rcases Nat.lt_trichotomy i j with hlt | heq | hgt
    · have := hp i j hi hj hlt; omega
    · subst heq; omega
    · have := hp j i hj hi hgt; omega
/-- A run and the next one are made one, if they are. -/
def joinL (l : List Rn) (i : Nat) : List Rn :=
  if i + 1 < l.length ∧ (l.getD i (0, 0)).1 + (l.getD i (0, 0)).2 = (l.getD (i + 1) (0, 0)).1 then
    l.take i ++ ((l.getD i (0, 0)).1, (l.getD i (0, 0)).2 + (l.getD (i + 1) (0, 0)).2) :: l.drop (i + 2)
  else l
/-- How many runs begin ahead of a. -/
def ahead (l : List Rn) (a : Nat) : Nat := (l.takeWhile fun r => r.1 < a).length
def insL (l : List Rn) (i : Nat) (r : Rn) : List Rn := l.take i ++ r :: l.drop i
def giveL (l : List Rn) (a n : Nat) : List Rn :=
  let m := joinL (insL l (ahead l a) (a, n)) (ahead l a)
  if ahead l a = 0 then m else joinL m (ahead l a - 1)
theorem takeWhile_lt (l : List Rn) (a : Nat) : ∀ r ∈ l.takeWhile (fun r => r.1 < a), r.1 < a := by
  induction l with
  | nil => intro r hr; simp at hr
  | cons q l ih =>
    intro r hr
    rw [List.takeWhile_cons] at hr
    split at hr
    · rename_i hq
      rcases List.mem_cons.1 hr with rfl | hr
      · simpa using hq
      · exact ih r hr
    · simp at hr
theorem dropWhile_ge {l : List Rn} (h : Norm l) (a : Nat) : ∀ r ∈ l.dropWhile (fun r => r.1 < a), a ≤ r.1 := by
  induction l with
  | nil => intro r hr; simp at hr
  | cons q l ih =>
    intro r hr
    rw [List.dropWhile_cons] at hr
    split at hr
    · exact ih h.tail r hr
    · rename_i hq
      have hq : a ≤ q.1 := by simpa using hq
      rcases List.mem_cons.1 hr with rfl | hr
      · exact hq
      · have := h.gap r hr
        omega
/-- A run ahead of others, made one with the first if it ends there. -/
def jn (x : Rn) : List Rn → List Rn
  | [] => [x]
  | y :: s => if x.1 + x.2 = y.1 then (x.1, x.2 + y.2) :: s else x :: y :: s
theorem jn_cons (x y : Rn) (s : List Rn) : jn x (y :: s) = if x.1 + x.2 = y.1 then (x.1, x.2 + y.2) :: s else x :: y :: s := rfl
theorem join_at (p : List Rn) (x : Rn) (s : List Rn) : joinL (p ++ x :: s) p.length = p ++ jn x s := by
  have e1 : (p ++ x :: s).getD p.length (0, 0) = x := by simp [List.getD_eq_getElem?_getD]
  unfold joinL
  rw [e1]
  cases s with
  | nil => rw [if_neg (by simp)]; rfl
  | cons y s =>
    have e2 : (p ++ x :: y :: s).getD (p.length + 1) (0, 0) = y := by simp [List.getD_eq_getElem?_getD]
    rw [e2, jn_cons]
    by_cases c : x.1 + x.2 = y.1
    · rw [if_pos ⟨by simp, c⟩, if_pos c]
      congr 1
      · simp
      · congr 1
        rw [List.drop_append]
        simp
    · rw [if_neg (fun h => c h.2), if_neg c]
theorem jn_ok {x : Rn} {s : List Rn} (hs : Norm s) (hx : 0 < x.2) (hle : ∀ y ∈ s, x.1 + x.2 ≤ y.1) : ∃ x' s', jn x s = x' :: s' ∧ x'.1 = x.1 ∧ Norm (x' :: s') ∧ ∀ z, cov (x' :: s') z ↔ Rn.has x z ∨ cov s z := by
  cases s with
  | nil => exact ⟨x, [], rfl, rfl, Norm.nil.cons hx (fun q h => by simp at h), fun z => cov_cons _ _ _⟩
  | cons y s =>
    rw [jn_cons]
    have hy := hs.head
    by_cases c : x.1 + x.2 = y.1
    · rw [if_pos c]
      refine ⟨_, _, rfl, rfl, hs.tail.cons (by simp; omega) (fun q hq => by have := hs.gap q hq; simp; omega), fun z => ?_⟩
      rw [cov_cons, cov_cons]
      unfold Rn.has
      constructor
      · rintro (h | h)
        · by_cases c2 : z < x.1 + x.2
          · exact .inl ⟨h.1, c2⟩
          · exact .inr (.inl ⟨by omega, by have := h.2; (try simp at this); omega⟩)
        · exact .inr (.inr h)
      · rintro (h | h | h)
        · exact .inl ⟨h.1, by have := h.2; (try simp); omega⟩
        · exact .inl ⟨by have := h.1; (try simp); omega, by have := h.2; (try simp); omega⟩
        · exact .inr h
    · rw [if_neg c]
      refine ⟨_, _, rfl, rfl, hs.cons hx (fun q hq => ?_), fun z => cov_cons _ _ _⟩
      have h0 := hle y (by simp)
      rcases List.mem_cons.1 hq with rfl | hq
      · omega
      · have := hs.gap q hq; omega
theorem ahead_split (l : List Rn) (a : Nat) : l.take (ahead l a) = l.takeWhile (fun r => r.1 < a) ∧ l.drop (ahead l a) = l.dropWhile (fun r => r.1 < a) := by
  have h := List.takeWhile_append_dropWhile (p := fun r : Rn => decide (r.1 < a)) (l := l)
  unfold ahead
  obtain ⟨p, hp⟩ : ∃ p, l.takeWhile (fun r : Rn => decide (r.1 < a)) = p := ⟨_, rfl⟩
  obtain ⟨s, hs⟩ : ∃ s, l.dropWhile (fun r : Rn => decide (r.1 < a)) = s := ⟨_, rfl⟩
  rw [hp, hs] at h ⊢
  rw [← h]
  simp
theorem give_ok {l : List Rn} (a n : Nat) (hl : Norm l) (hn : 0 < n) (hd : ∀ r ∈ l, ¬ (r.1 < a + n ∧ a < r.1 + r.2)) : Norm (giveL l a n) ∧ ∀ x, cov (giveL l a n) x ↔ cov l x ∨ (a ≤ x ∧ x < a + n) := by
  have hpl := takeWhile_lt l a
  have hsg := dropWhile_ge hl a
  obtain ⟨t1, t2⟩ := ahead_split l a
  have hlen : ahead l a = (l.takeWhile (fun r : Rn => decide (r.1 < a))).length := rfl
  have hsp := List.takeWhile_append_dropWhile (p := fun r : Rn => decide (r.1 < a)) (l := l)
  unfold giveL insL
  rw [t1, t2]
  obtain ⟨k, hk⟩ : ∃ k, ahead l a = k := ⟨_, rfl⟩
  rw [hk] at hlen ⊢
  obtain ⟨p, hp⟩ : ∃ p, l.takeWhile (fun r : Rn => decide (r.1 < a)) = p := ⟨_, rfl⟩
  obtain ⟨s, hs⟩ : ∃ s, l.dropWhile (fun r : Rn => decide (r.1 < a)) = s := ⟨_, rfl⟩
  rw [hp] at hpl hlen
  rw [hs] at hsg
  rw [hp, hs] at hsp ⊢
  clear hp hs t1 t2 hk
  subst hsp
  subst hlen
  obtain ⟨n1, n2, n3⟩ := Norm.append.1 hl
  obtain ⟨x', s', ej, ex, hN, hC⟩ := jn_ok (x := (a, n)) n2 hn (fun y hy => by
    have h1 := hsg y hy
    have h2 := hd y (by simp [hy])
    have h3 := n2.2 y hy
    simp
    omega)
  simp only [join_at, ej]
  have hxc : ∀ z, Rn.has (a, n) z ↔ a ≤ z ∧ z < a + n := fun z => Iff.rfl
  rcases List.eq_nil_or_concat p with rfl | ⟨p', q, rfl⟩
  · rw [List.length_nil, if_pos rfl]
    refine ⟨hN, fun x => ?_⟩
    rw [List.nil_append, hC, hxc, List.nil_append]
    exact or_comm
  · rw [List.concat_eq_append] at *
    rw [if_neg (by simp)]
    have hq1 := hpl q (by simp)
    have hq2 := hd q (by simp)
    have hq3 := n1.2 q (by simp)
    obtain ⟨m1, m2, m3⟩ := Norm.append.1 n1
    have hqa : q.1 + q.2 ≤ a := by omega
    have hlow : ∀ y ∈ x' :: s', a ≤ y.1 := fun y hy => by
      rcases List.mem_cons.1 hy with rfl | hy
      · rw [ex]; exact Nat.le_refl _
      · have := hN.gap y hy
        rw [ex] at this
        simp at this
        omega
    obtain ⟨x2, s2, ej2, ex2, hN2, hC2⟩ := jn_ok (x := q) hN hq3 (fun y hy => by have := hlow y hy; omega)
    have e : (p' ++ [q]) ++ x' :: s' = p' ++ q :: x' :: s' := by simp
    have el : (p' ++ [q]).length - 1 = p'.length := by simp
    rw [e, el, join_at, ej2]
    refine ⟨Norm.append.2 ⟨m1, hN2, fun u hu v hv => ?_⟩, fun x => ?_⟩
    · have h1 := m3 u hu q (by simp)
      rcases List.mem_cons.1 hv with rfl | hv
      · omega
      · have := hN2.gap v hv
        omega
    · rw [cov_append, hC2, hC, hxc, cov_append, cov_append, cov_cons]
      have c0 := cov_nil x
      simp only [c0, or_false]
      constructor
      · rintro (h | h | h | h)
        · exact .inl (.inl (.inl h))
        · exact .inl (.inl (.inr h))
        · exact .inr h
        · exact .inl (.inr h)
      · rintro (((h | h) | h) | h)
        · exact .inl h
        · exact .inr (.inl h)
        · exact .inr (.inr (.inr h))
        · exact .inr (.inr (.inl h))
end Go.Proofs.Ytdfgaomlahpblaa.F
