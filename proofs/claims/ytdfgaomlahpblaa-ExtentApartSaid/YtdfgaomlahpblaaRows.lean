/-
  No cell of these rows narrows 'for every input' (looked for: loops, veiled, ifaces, maps, wideKeys, modest, calm, conditions, laid).
  DERIVED. THE GIVEN ROWS OF THIS SEAT. 5 by the template 'for every input the law returns true; each argument reads behind the call as it read before'; 0 by the template 'total and deterministic' (their statements: YtdfgaomlahpblaaTotals.lean).
  GIVEN WITH THE SEED: the statements are not yours to turn. If you find one false, say at which input.
  Laid BY PROGRAM, IN A SANDBOX (cutbox-rows.mjs): the forced cells as the released guide's own fill.sh prints them over the translation 049422c668ad521a… (all of the seat's roots in one cut). By AI agents, Wed Nov 11 2026. No macro, syntax, notation, axiom, sorry.
-/
import Derived.Test.YtdfgaomlahpblaaChecked
import GoSem.Claim
import GoSem.ClaimJoined
import GoSem.ClaimMapViews
import Derived.JoinedTies
import Derived.KernelRfl
namespace Go.Proofs.Ytdfgaomlahpblaa
/- THE CELL 'sum', in the pinned program and in every row, IS THE sha256 OF THE DUMP (.gsa) THAT YtdfgaomlahpblaaProg.lean LOADS. Nothing in Lean hashes anything: it is a label: what it is worth is what the hold of that sum in a sandbox is worth. -/
noncomputable def Try.pinned : Pinned := { name := "ytdfgaomlahpblaa", sum := "049422c668ad521ae324546eae7a474a5acfd7882df1901f63fc29d83b077936", checked := Try.checked }
namespace Rows
def none {H : Type} : Left H := { results := [], args := [] }

/-- 'aumbrylaw04.ExtentNew': WHATEVER THE INPUT: true; the input reads as it did. -/
def extentNewSpec : ChangeSpec := { name := "extentNew", fn := fun _ => fun
  | [d1, d2] => { results := [.lit (.bool true)], args := [d1, d2] }
  | _ => none }
def extentNewRow : OpenClaim := { program := "ytdfgaomlahpblaa", sum := "049422c668ad521ae324546eae7a474a5acfd7882df1901f63fc29d83b077936", func := "aumbry/aumbrylaw04.ExtentNew", spec := "extentNew", unfollowed := true, recurses := true, apart := false }
def ExtentNewSaid : Prop := extentNewRow.holds Try.pinned (OpenSpec.ofChange extentNewSpec)

/-- ITS FALSE NEIGHBOUR: 'it returns false'. Refute it at one input. -/
def extentNewWrong : ChangeSpec := { name := "extentNew", fn := fun _ => fun
  | [d1, d2] => { results := [.lit (.bool false)], args := [d1, d2] }
  | _ => none }
def ExtentNewWrongFalsely : Prop := extentNewRow.holds Try.pinned (OpenSpec.ofChange extentNewWrong)

/-- 'aumbrylaw04.ExtentApart': WHATEVER THE INPUT: true; the input reads as it did. -/
def extentApartSpec : ChangeSpec := { name := "extentApart", fn := fun _ => fun
  | [d1, d2, d3] => { results := [.lit (.bool true)], args := [d1, d2, d3] }
  | _ => none }
def extentApartRow : OpenClaim := { program := "ytdfgaomlahpblaa", sum := "049422c668ad521ae324546eae7a474a5acfd7882df1901f63fc29d83b077936", func := "aumbry/aumbrylaw04.ExtentApart", spec := "extentApart", inPlace := ["slices.overlaps[aumbry/api.Run]"], unfollowed := true, recurses := true, apart := false }
def ExtentApartSaid : Prop := extentApartRow.holds Try.pinned (OpenSpec.ofChange extentApartSpec)

/-- ITS FALSE NEIGHBOUR: 'it returns false'. Refute it at one input. -/
def extentApartWrong : ChangeSpec := { name := "extentApart", fn := fun _ => fun
  | [d1, d2, d3] => { results := [.lit (.bool false)], args := [d1, d2, d3] }
  | _ => none }
def ExtentApartWrongFalsely : Prop := extentApartRow.holds Try.pinned (OpenSpec.ofChange extentApartWrong)

/-- 'aumbrylaw04.ExtentPlays': WHATEVER THE INPUT: true; the input reads as it did. -/
def extentPlaysSpec : ChangeSpec := { name := "extentPlays", fn := fun _ => fun
  | [d1, d2, d3] => { results := [.lit (.bool true)], args := [d1, d2, d3] }
  | _ => none }
def extentPlaysRow : OpenClaim := { program := "ytdfgaomlahpblaa", sum := "049422c668ad521ae324546eae7a474a5acfd7882df1901f63fc29d83b077936", func := "aumbry/aumbrylaw04.ExtentPlays", spec := "extentPlays", inPlace := ["slices.overlaps[aumbry/api.Run]"], unfollowed := true, recurses := true, apart := false }
def ExtentPlaysSaid : Prop := extentPlaysRow.holds Try.pinned (OpenSpec.ofChange extentPlaysSpec)

/-- ITS FALSE NEIGHBOUR: 'it returns false'. Refute it at one input. -/
def extentPlaysWrong : ChangeSpec := { name := "extentPlays", fn := fun _ => fun
  | [d1, d2, d3] => { results := [.lit (.bool false)], args := [d1, d2, d3] }
  | _ => none }
def ExtentPlaysWrongFalsely : Prop := extentPlaysRow.holds Try.pinned (OpenSpec.ofChange extentPlaysWrong)

/-- 'aumbrylaw04.ExtentBack': WHATEVER THE INPUT: true; the input reads as it did. -/
def extentBackSpec : ChangeSpec := { name := "extentBack", fn := fun _ => fun
  | [d1, d2, d3, d4] => { results := [.lit (.bool true)], args := [d1, d2, d3, d4] }
  | _ => none }
def extentBackRow : OpenClaim := { program := "ytdfgaomlahpblaa", sum := "049422c668ad521ae324546eae7a474a5acfd7882df1901f63fc29d83b077936", func := "aumbry/aumbrylaw04.ExtentBack", spec := "extentBack", inPlace := ["slices.overlaps[aumbry/api.Run]"], unfollowed := true, recurses := true, apart := false }
def ExtentBackSaid : Prop := extentBackRow.holds Try.pinned (OpenSpec.ofChange extentBackSpec)

/-- ITS FALSE NEIGHBOUR: 'it returns false'. Refute it at one input. -/
def extentBackWrong : ChangeSpec := { name := "extentBack", fn := fun _ => fun
  | [d1, d2, d3, d4] => { results := [.lit (.bool false)], args := [d1, d2, d3, d4] }
  | _ => none }
def ExtentBackWrongFalsely : Prop := extentBackRow.holds Try.pinned (OpenSpec.ofChange extentBackWrong)

/-- 'aumbrylaw04.ExtentForks': WHATEVER THE INPUT: true; the input reads as it did. -/
def extentForksSpec : ChangeSpec := { name := "extentForks", fn := fun _ => fun
  | [d1, d2, d3, d4, d5] => { results := [.lit (.bool true)], args := [d1, d2, d3, d4, d5] }
  | _ => none }
def extentForksRow : OpenClaim := { program := "ytdfgaomlahpblaa", sum := "049422c668ad521ae324546eae7a474a5acfd7882df1901f63fc29d83b077936", func := "aumbry/aumbrylaw04.ExtentForks", spec := "extentForks", inPlace := ["slices.overlaps[aumbry/api.Run]"], unfollowed := true, recurses := true, apart := false }
def ExtentForksSaid : Prop := extentForksRow.holds Try.pinned (OpenSpec.ofChange extentForksSpec)

/-- ITS FALSE NEIGHBOUR: 'it returns false'. Refute it at one input. -/
def extentForksWrong : ChangeSpec := { name := "extentForks", fn := fun _ => fun
  | [d1, d2, d3, d4, d5] => { results := [.lit (.bool false)], args := [d1, d2, d3, d4, d5] }
  | _ => none }
def ExtentForksWrongFalsely : Prop := extentForksRow.holds Try.pinned (OpenSpec.ofChange extentForksWrong)

/- THE SECOND FORM. 'bulk': how many values and letters a reading holds, each counted each time it is reached (what is shared counts as often as it is met; a slice's spare places count too). A statement '..UptoSaid' is the law's where the arguments, and the package variables that the reading takes, are together of bulk at most 1048576: NARROWER than '..Said'. Prove '..Said' where nothing that the law and all that it calls make is longer than what came in: it says more and counts as full. Else prove '..UptoSaid'. A law counts once. -/
mutual
def uptoBulk {H : Type} : DataW H → Nat
  | .lit (.string bytes) => bytes.length + 1
  | .lit _ => 1
  | .nil => 1
  | .ptr d => uptoBulk d + 1
  | .slice elems spare => uptoBulkAll elems + uptoBulkAll spare + 1
  | .agg parts => uptoBulkAll parts + 1
  | .iface _ d => uptoBulk d + 1
  | .map entries => uptoBulkEntries entries + 1
  | .held _ => 1
def uptoBulkAll {H : Type} : List (DataW H) → Nat
  | [] => 0
  | d :: r => uptoBulk d + uptoBulkAll r
def uptoBulkEntries {H : Type} : List (Lit × DataW H) → Nat
  | [] => 0
  | x :: r => uptoBulkEntry x + uptoBulkEntries r
def uptoBulkEntry {H : Type} : Lit × DataW H → Nat
  | (.string bytes, d) => bytes.length + uptoBulk d + 1
  | (_, d) => uptoBulk d + 1
 end
def uptoSmall : (H : Type) → List (DataW H) → Bool := fun _ ds => decide (uptoBulkAll ds ≤ 1048576)
def OpenSpec.upto (s : _root_.Go.ChangeSpec) : _root_.Go.OpenSpec := { _root_.Go.OpenSpec.ofChange s with cond := some uptoSmall }

/-- 'aumbrylaw04.ExtentNew', WHERE WHAT IT READS IS OF BULK AT MOST 1048576: true; the input reads as it did. -/
def extentNewUptoRow : OpenClaim := { program := "ytdfgaomlahpblaa", sum := "049422c668ad521ae324546eae7a474a5acfd7882df1901f63fc29d83b077936", func := "aumbry/aumbrylaw04.ExtentNew", spec := "extentNew", unfollowed := true, recurses := true, apart := false, narrowed := true }
def ExtentNewUptoSaid : Prop := extentNewUptoRow.holds Try.pinned (OpenSpec.upto extentNewSpec)

/-- 'aumbrylaw04.ExtentApart', WHERE WHAT IT READS IS OF BULK AT MOST 1048576: true; the input reads as it did. -/
def extentApartUptoRow : OpenClaim := { program := "ytdfgaomlahpblaa", sum := "049422c668ad521ae324546eae7a474a5acfd7882df1901f63fc29d83b077936", func := "aumbry/aumbrylaw04.ExtentApart", spec := "extentApart", inPlace := ["slices.overlaps[aumbry/api.Run]"], unfollowed := true, recurses := true, apart := false, narrowed := true }
def ExtentApartUptoSaid : Prop := extentApartUptoRow.holds Try.pinned (OpenSpec.upto extentApartSpec)

/-- 'aumbrylaw04.ExtentPlays', WHERE WHAT IT READS IS OF BULK AT MOST 1048576: true; the input reads as it did. -/
def extentPlaysUptoRow : OpenClaim := { program := "ytdfgaomlahpblaa", sum := "049422c668ad521ae324546eae7a474a5acfd7882df1901f63fc29d83b077936", func := "aumbry/aumbrylaw04.ExtentPlays", spec := "extentPlays", inPlace := ["slices.overlaps[aumbry/api.Run]"], unfollowed := true, recurses := true, apart := false, narrowed := true }
def ExtentPlaysUptoSaid : Prop := extentPlaysUptoRow.holds Try.pinned (OpenSpec.upto extentPlaysSpec)

/-- 'aumbrylaw04.ExtentBack', WHERE WHAT IT READS IS OF BULK AT MOST 1048576: true; the input reads as it did. -/
def extentBackUptoRow : OpenClaim := { program := "ytdfgaomlahpblaa", sum := "049422c668ad521ae324546eae7a474a5acfd7882df1901f63fc29d83b077936", func := "aumbry/aumbrylaw04.ExtentBack", spec := "extentBack", inPlace := ["slices.overlaps[aumbry/api.Run]"], unfollowed := true, recurses := true, apart := false, narrowed := true }
def ExtentBackUptoSaid : Prop := extentBackUptoRow.holds Try.pinned (OpenSpec.upto extentBackSpec)

/-- 'aumbrylaw04.ExtentForks', WHERE WHAT IT READS IS OF BULK AT MOST 1048576: true; the input reads as it did. -/
def extentForksUptoRow : OpenClaim := { program := "ytdfgaomlahpblaa", sum := "049422c668ad521ae324546eae7a474a5acfd7882df1901f63fc29d83b077936", func := "aumbry/aumbrylaw04.ExtentForks", spec := "extentForks", inPlace := ["slices.overlaps[aumbry/api.Run]"], unfollowed := true, recurses := true, apart := false, narrowed := true }
def ExtentForksUptoSaid : Prop := extentForksUptoRow.holds Try.pinned (OpenSpec.upto extentForksSpec)

end Rows
end Go.Proofs.Ytdfgaomlahpblaa
