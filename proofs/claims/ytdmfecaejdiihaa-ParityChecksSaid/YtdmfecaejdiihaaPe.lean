/- Rows of elements: a polynomial's value, sums of products. -/
import Derived.Test.YtdmfecaejdiihaaPm
set_option linter.unusedVariables false
set_option linter.unusedSimpArgs false
namespace Go.Proofs.Ytdmfecaejdiihaa.F
open Go.RowKit Go.Proofs.YtdmfecaejdiihaaW.PrintWords

/-- A polynomial's value. -/
def geval : List Nat → Nat → Nat
  | [], _ => 0
  | c :: p, x => c ^^^ gm (geval p x) x
theorem geval_lt {p : List Nat} (hp : ∀ c ∈ p, c < 256) {x : Nat} (hx : x < 256) : geval p x < 256 := by
  induction p with
  | nil => simp [geval]
  | cons c p ih => exact xor_lt (hp c (by simp)) (gm_lt (ih fun d hd => hp d (by simp [hd])) x)
/-- The sum of products. -/
def gdot : List Nat → List Nat → Nat
  | a :: l, b :: m => gm a b ^^^ gdot l m
  | _, _ => 0
theorem drop_cons {α : Type} {l : List α} {i : Nat} (h : i < l.length) : l.drop i = l[i] :: l.drop (i + 1) := (List.getElem_cons_drop h).symm
theorem geval_drop {p : List Nat} {i : Nat} (h : i < p.length) (x : Nat) : geval (p.drop i) x = p[i] ^^^ gm (geval (p.drop (i + 1)) x) x := by rw [drop_cons h]; rfl
theorem gdot_drop {a b : List Nat} {i : Nat} (ha : i < a.length) (hb : i < b.length) : gdot (a.drop i) (b.drop i) = gm a[i] b[i] ^^^ gdot (a.drop (i + 1)) (b.drop (i + 1)) := by rw [drop_cons ha, drop_cons hb]; rfl
theorem gdot_end (a b : List Nat) {i : Nat} (h : a.length ≤ i ∨ b.length ≤ i) : gdot (a.drop i) (b.drop i) = 0 := by
  rcases h with h | h
  · rw [List.drop_eq_nil_of_le h]; simp [gdot]
  · rw [List.drop_eq_nil_of_le h]; cases a.drop i <;> simp [gdot]

theorem Dot_c (A B : Option Addr) (c d : Nat) (a b : List Nat) (w : World) (ha : RN .u8 w A a) (hb : RN .u8 w B b) (la : ∀ c ∈ a, c < 256) (lb : ∀ c ∈ b, c < 256) :
    Calls Try.prog 37 #[.slice A a.length c, .slice B b.length d] w fun e w' => e = .returned (.int .u8 (gdot a b : Nat)) ∧ ∃ n, w' = w.drewN n := by
  have hma := ha.max
  have hmb := hb.max
  rcases Nat.lt_or_ge b.length a.length with h0 | h0
  all_goals
    go_enter Try.func37, Try.ntmps37
    go_wp2
    go_loopw [5, 12] (fun vo vi W => ∃ i o : Nat, i ≤ a.length ∧ i ≤ b.length ∧ o < 256 ∧ vo = .int .u8 o ∧ vi = .int .i64 i ∧ o ^^^ gdot (a.drop i) (b.drop i) = gdot a b ∧ Drawn0 w W) (fun _ vi _ => a.length - (intOf vi).toNat)
    case atStart => exact ⟨0, 0, by omega, by omega, by omega, rfl, rfl, by simp, Drawn0.refl _⟩
    case round =>
      obtain ⟨i, o, hi, hi2, ho, rfl, rfl, hg, hW⟩ := hrel
      have HG := Lib.hid hg
      clear hg
      by_cases hlt : i < a.length ∧ i < b.length
      · obtain ⟨h1, h2⟩ := hlt
        obtain ⟨ad, e, hca⟩ := (ha.below hW.below).atN i h1
        subst e
        obtain ⟨bd, e, hcb⟩ := (hb.below hW.below).atN i h2
        subst e
        obtain ⟨y, hy⟩ : ∃ y, a[i] = y := ⟨_, rfl⟩
        obtain ⟨z, hz⟩ : ∃ z, b[i] = z := ⟨_, rfl⟩
        rw [hy] at hca
        rw [hz] at hcb
        have ly : y < 256 := by rw [← hy]; exact la _ (List.getElem_mem _)
        have lz : z < 256 := by rw [← hz]; exact lb _ (List.getElem_mem _)
        have HY := Lib.hid hy
        have HZ := Lib.hid hz
        clear hy hz
        have hd1 : decide ((i : Int) < a.length) = true := by simp; omega
        have hd2 : decide ((i : Int) < b.length) = true := by simp; omega
        go_wp2_with fail
        go_quiet ((go_at_call 43; exact Calls.quiet_of (Mul_c y z ly lz _)))
        go_wp2_with fail
        refine ⟨⟨i + 1, o ^^^ gm y z, by omega, by omega, xor_lt ho (gm_lt ly z), ?_, by go_num, ?_, hW.step _⟩, by simp [intOf]; omega⟩
        · rw [u8_xor_nat _ _ ho (gm_lt ly z)]
        · rw [← HG.out, gdot_drop h1 h2, HY.out, HZ.out, Nat.xor_assoc]
      · have h := HG.out
        rw [gdot_end a b (by omega)] at h
        have h' : o = gdot a b := by simpa using h
        have H' := Lib.hid h'
        clear h h'
        first
          | have hd : decide ((i : Int) < b.length) = false := by simp; omega
            go_wp2
            go_ret
            exact ⟨by rw [H'.out]; rfl, hW.out⟩
          | have hd : decide ((i : Int) < a.length) = false := by simp; omega
            go_wp2
            go_ret
            exact ⟨by rw [H'.out]; rfl, hW.out⟩
end Go.Proofs.Ytdmfecaejdiihaa.F
