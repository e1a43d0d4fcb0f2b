/- Small words for walks: rows of natural numbers that are read. -/
import Derived.Test.YtejmklfhcealnaaProg
import Derived.Test.YtejmklfhcealnaaWMore
import Derived.WalkKit
import Derived.WalkSpells
import Derived.Outline
import Derived.Lib.Hide
import Derived.Deep.QuietTactic
import Derived.BigQuiet
namespace Go.Proofs.Ytejmklfhcealnaa.F
open Go.RowKit Go.Proofs.YtejmklfhcealnaaW.PrintWords

def encN (k : IntKind) (n : Nat) : Value := .int k (n : Int)
def kn (k : IntKind) : Kd Nat := Kd.scalar (encN k) (fun _ => rfl)
/-- What the slice at A reads as: the numbers xs. -/
def RN (k : IntKind) (w : World) (A : Option Addr) (xs : List Nat) : Prop := (kn k).C w A xs.length xs
theorem RN.below {k : IntKind} {w w1 : World} {A : Option Addr} {xs : List Nat} (h : RN k w A xs) (hb : Below w.heap.size w w1) : RN k w1 A xs := Kd.C_below h hb
theorem RN.max {k : IntKind} {w : World} {A : Option Addr} {xs : List Nat} (h : RN k w A xs) : (xs.length : Int) ≤ 9223372036854775807 := by have := h.2.1; omega
theorem RN.at {k : IntKind} {w : World} {A : Option Addr} {xs : List Nat} (h : RN k w A xs) (i : Nat) (hi : i < xs.length) : ∃ ad, A = some ad ∧ w.cell? (ad.add i) = some (.int k (xs[i] : Nat)) := by
  obtain ⟨ad, e, hc⟩ := ReadsOf.at_ (d := 0) (Kd.reads_of_C h) (i : Int) (by omega) (by omega)
  refine ⟨ad, e, ?_⟩
  simpa [rdOf, encN, List.getD_eq_getElem?_getD, hi] using hc
/-- The same, behind draws. -/
theorem RN.atN {k : IntKind} {w : World} {A : Option Addr} {xs : List Nat} (h : RN k w A xs) (i : Nat) (hi : i < xs.length) : ∃ ad, A = some ad ∧ ∀ n, (w.drewN n).cell? (ad.add i) = some (.int k (xs[i] : Nat)) := by
  obtain ⟨ad, e, hc⟩ := h.at i hi
  exact ⟨ad, e, fun n => hc⟩
theorem RN.drewN {k : IntKind} {w : World} {A : Option Addr} {xs : List Nat} (h : RN k w A xs) (n : Nat) : RN k (w.drewN n) A xs := h.below (pw_below_drewN (Below.refl _ _) n)
theorem i64_and1 (n : Int) : Go.bits .and .i64 n 1 = n % 2 := by
  have h1 : (BitVec.ofInt 64 1).toNat = 2 ^ 1 - 1 := by decide
  have key : (BitVec.ofInt 64 n &&& BitVec.ofInt 64 1).toNat = (n % ((2 ^ 64 : Nat) : Int)).toNat % 2 ^ 1 := by
    rw [BitVec.toNat_and, BitVec.toNat_ofInt, h1, Nat.and_two_pow_sub_one_eq_mod]
  show IntKind.i64.wrap ((BitVec.ofInt 64 n &&& BitVec.ofInt 64 1).toNat : Nat) = n % 2
  rw [key, IntKind.wrap_i64]
  omega

/-- A row of natural numbers of the call's own, laid in a block from base on. -/
def OwnN (k : IntKind) (e : TypeId) (w : World) (base : Nat) (v : Value) (xs : List Nat) : Prop := w.ownsRow base e 1 v xs.length (xs.map (encN k))
theorem OwnN.nil (k : IntKind) (e : TypeId) (w : World) (base : Nat) : OwnN k e w base (.slice none 0 0) [] := own_nil _ _ _ _
theorem OwnN.lower {k : IntKind} {e : TypeId} {w : World} {base b : Nat} {v : Value} {xs : List Nat} (h : OwnN k e w base v xs) (hb : b ≤ base) : OwnN k e w b v xs := by
  refine ⟨h.1, ?_⟩
  rcases h.2 with ⟨h1, h2⟩ | ⟨g, cap, cur, h1, h2, h3⟩
  · exact .inl ⟨h1, h2⟩
  · exact .inr ⟨g, cap, cur, h1, by omega, h3⟩
theorem OwnN.kept {k : IntKind} {e : TypeId} {w w1 : World} {base : Nat} {v : Value} {xs : List Nat} (h : OwnN k e w base v xs) (hb : Below w.heap.size w w1) : OwnN k e w1 base v xs := pw_own_below h hb
theorem OwnN.reads {k : IntKind} {e : TypeId} {w : World} {base : Nat} {v : Value} {xs : List Nat} (h : OwnN k e w base v xs) : ∃ A c, v = .slice A xs.length c ∧ xs.length ≤ c ∧ RN k w A xs := by
  obtain ⟨A, c, rfl, hc, hr⟩ := own_reads_of_le (enc := encN k) (d := 0) h
  exact ⟨A, c, rfl, hc, Kd.C_of_reads hr⟩
section
variable {P : Program} {ops : Array Oper} {rest : List Oper} {o : Oper} {a : Act} {Q : Exit → Act → World → Prop}
theorem append_N {w0 W : World} (base : Nat) (hgd : o.guard = none) (s x : Operand) (t e : TypeId) (k : IntKind) (bytes : Nat)
    (ho : o.op = .call { callee := .builtin .append, args := #[s, x], argTypes := #[t, t] })
    (ht : P.underlying t = some (.slice e)) (hinfo : (P.info? e).map (fun i => (i.zero, i.size, i.bytes)) = some (some (.int k 0), 1, bytes)) (hb0 : 0 < bytes)
    (v : Value) (xs : List Nat) (y : Nat) (hs : a.eval s = v) (B : Nat) (hx : a.eval x = .slice (some ⟨B, 0, none⟩) 1 1) (hB : B = W.heap.size)
    (HO : OwnN k e W base v xs) (HB : Below base w0 W) (hbase : base ≤ W.heap.size) (hl : (xs.length + 1) * bytes ≤ 140737488355328)
    (h : ∀ v1 w1, OwnN k e w1 base v1 (xs ++ [y]) → Below base w0 w1 → wpList P ops Q rest (a.put o.dst v1) w1) :
    wpList P ops Q (o :: rest) a (W.alloc (.cells #[.int k (y : Int)] e)) :=
  print_append base hgd s x t e (.int k 0) bytes ho ht hinfo rfl hb0 v (xs.map (encN k)) (encN k y) hs (hB ▸ hx) rfl (by rw [List.length_map]; exact HO) HB hbase (by rw [List.length_map]; exact hl)
    fun v1 w1 hown hB _ _ => h v1 w1 (by simpa [OwnN] using hown) hB
end
/-- A text's bytes. -/
def strN (xs : List Nat) : ByteArray := Go.strOfNums (xs.map (Int.ofNat ·))
theorem RN.toInt {k : IntKind} {w : World} {A : Option Addr} {xs : List Nat} (h : RN k w A xs) : (Kd.int k).C w A xs.length (xs.map (Int.ofNat ·)) := by
  have hr := Kd.reads_of_C (enc := encN k) (d := 0) (h1 := fun _ => rfl) h
  refine Kd.C_of_reads (d := (0 : Int)) ⟨by simp, hr.2.1, fun hp => ?_⟩
  obtain ⟨ad, e, hc⟩ := hr.2.2 hp
  refine ⟨ad, e, fun j hj => ?_⟩
  rw [hc j hj]
  simp [List.getD_eq_getElem?_getD, hj, encN]
theorem RN.string {P : Program} {w : World} {src dst e : TypeId} {A : Option Addr} {c : Nat} {xs : List Nat} (hs : P.underlying src = some (.slice e)) (he : P.underlying e = some (.int .u8)) (hd : P.underlying dst = some .string)
    (h : RN .u8 w A xs) : (convert src dst (.slice A xs.length c)).run P w = .ok (.string (strN xs)) w := Kd.C_string hs he hd h.toInt
theorem RN.nil (k : IntKind) (w : World) : RN k w none [] := Kd.C_nil _ _
theorem RN.take {k : IntKind} {w : World} {A : Option Addr} {xs : List Nat} (h : RN k w A xs) (m : Nat) (hm : m ≤ xs.length) : RN k w A (xs.take m) := Kd.C_take h hm
theorem info_u8 : (Try.prog.info? 5).map (fun i => (i.zero, i.size, i.bytes)) = some (some (.int .u8 0), 1, 1) := by kernel_rfl
end Go.Proofs.Ytejmklfhcealnaa.F
