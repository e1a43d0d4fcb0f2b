/- A row of bytes cloned. -/
import Derived.Test.YtejmklfhcealnaaBr
import Derived.Laws.Tables
import Derived.Lib.SliceRun
set_option linter.unusedVariables false
set_option linter.unusedSimpArgs false
namespace Go.Proofs.Ytejmklfhcealnaa.F
open Go.RowKit Go.Proofs.YtejmklfhcealnaaW.PrintWords

theorem Clone_c (A : Option Addr) (c : Nat) (xs : List Nat) (W : World) (hr : RN .u8 W A xs) (hc : xs.length ≤ c) (hl : xs.length ≤ 140737488355328) (hA : A = none → c = 0) :
    Calls Try.prog 35 #[.slice A xs.length c] W fun e w' => ∃ v, e = .returned v ∧ OwnN .u8 5 w' W.heap.size v xs ∧ Below W.heap.size W w' := by
  have hm := hr.max
  have HR := Lib.hid hr
  have qS : ∀ (w : World) (a : Option Addr) (n c : Nat), Sem.run Try.prog (binOp BinOp.eql 27 (.slice a n c) (.slice none 0 0)) w = Result.ok (.bool a.isNone) w := fun w a n c => Go.Lib.run_eql_slice_nil w 27 5 a n c 0 0 Try.underlying27
  cases A with
  | none =>
    have h0 : xs = [] := by
      cases xs with
      | nil => rfl
      | cons x xs => obtain ⟨ad, h, _⟩ := hr.at 0 (by simp); cases h
    subst h0
    obtain rfl := hA rfl
    go_enter Try.func35, Try.ntmps35
    go_wp2_with fail
    go_ret
    exact ⟨_, rfl, own_nil _ _ _ _, Below.refl _ _⟩
  | some ad =>
    have hO : OwnN .u8 5 (W.alloc (.cells #[] 5)) W.heap.size (.slice (some ⟨W.heap.size, 0, none⟩) 0 0) [] := by
      have := own_lit_of (enc := encN .u8) W W.heap.size 5 [] (by simp) (by simp)
      simp only [List.map_nil, List.length_nil, encs] at this
      exact this
    have HO := Lib.hid hO
    have hB : Below W.heap.size W (W.alloc (.cells #[] 5)) := (Below.refl _ _).alloc (Nat.le_refl _) _
    have HR2 := Lib.hid (hr.below hB)
    clear hO
    go_enter Try.func35, Try.ntmps35
    go_wp2_with (at_builtin; refine append_NN W.heap.size rfl (.tmp 5) (.tmp 6) 27 5 .u8 1 rfl Try.underlying27 info_u8 (by decide) (.slice (some ⟨W.heap.size, 0, none⟩) 0 0) [] xs (some ad) c rfl rfl HO.out HR2.out (by simp) (by simpa using hl) ?_; intro v1 w1 ho1 hg1 hat1)
    go_ret
    refine ⟨_, rfl, ho1, ?_⟩
    have hs := hg1.size
    exact ⟨hg1.os, hg1.tape, hg1.output, Nat.le_trans hB.size hs, fun k hk => (hg1.block k (Nat.lt_of_lt_of_le hk hB.size) (by simp [Value.ownBlock]; omega)).trans (hB.block k hk)⟩
end Go.Proofs.Ytejmklfhcealnaa.F
