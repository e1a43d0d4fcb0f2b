/-
  No cell of these rows narrows 'for every input' (looked for: loops, veiled, ifaces, maps, wideKeys, modest, calm, conditions, laid).
  DERIVED. THE GIVEN ROWS OF THIS SEAT. 6 by the template 'for every input the law returns true; each argument reads behind the call as it read before'; 0 by the template 'total and deterministic' (their statements: YtbckibjpaiealaaTotals.lean).
  GIVEN WITH THE SEED: the statements are not yours to turn. If you find one false, say at which input.
  Laid BY PROGRAM, IN A SANDBOX (cutbox-rows.mjs): the forced cells as the released guide's own fill.sh prints them over the translation 49ae55280a8fbd5c… (all of the seat's roots in one cut). By AI agents, Wed Nov 11 2026. No macro, syntax, notation, axiom, sorry.
-/
import Derived.Test.YtbckibjpaiealaaChecked
import GoSem.Claim
import GoSem.ClaimJoined
import GoSem.ClaimMapViews
import Derived.JoinedTies
import Derived.KernelRfl
namespace Go.Proofs.Ytbckibjpaiealaa
/- THE CELL 'sum', in the pinned program and in every row, IS THE sha256 OF THE DUMP (.gsa) THAT YtbckibjpaiealaaProg.lean LOADS. Nothing in Lean hashes anything: it is a label: what it is worth is what the hold of that sum in a sandbox is worth. -/
noncomputable def Try.pinned : Pinned := { name := "ytbckibjpaiealaa", sum := "49ae55280a8fbd5c3d8ebccd5457ec6f705bc0adf1c940546eeb75add1dc2246", checked := Try.checked }
namespace Rows
def none {H : Type} : Left H := { results := [], args := [] }

/-- 'aumbrylaw06.GearTables': WHATEVER THE INPUT: true; the input reads as it did. -/
def gearTablesSpec : ChangeSpec := { name := "gearTables", fn := fun _ => fun
  | [d1, d2] => { results := [.lit (.bool true)], args := [d1, d2] }
  | _ => none }
def gearTablesRow : OpenClaim := { program := "ytbckibjpaiealaa", sum := "49ae55280a8fbd5c3d8ebccd5457ec6f705bc0adf1c940546eeb75add1dc2246", func := "aumbry/aumbrylaw06.GearTables", spec := "gearTables", unfollowed := true, recurses := true, apart := false }
def GearTablesSaid : Prop := gearTablesRow.holds Try.pinned (OpenSpec.ofChange gearTablesSpec)

/-- ITS FALSE NEIGHBOUR: 'it returns false'. Refute it at one input. -/
def gearTablesWrong : ChangeSpec := { name := "gearTables", fn := fun _ => fun
  | [d1, d2] => { results := [.lit (.bool false)], args := [d1, d2] }
  | _ => none }
def GearTablesWrongFalsely : Prop := gearTablesRow.holds Try.pinned (OpenSpec.ofChange gearTablesWrong)

/-- 'aumbrylaw06.GearCuts': WHATEVER THE INPUT: true; the input reads as it did. -/
def gearCutsSpec : ChangeSpec := { name := "gearCuts", fn := fun _ => fun
  | [d1, d2, d3] => { results := [.lit (.bool true)], args := [d1, d2, d3] }
  | _ => none }
def gearCutsRow : OpenClaim := { program := "ytbckibjpaiealaa", sum := "49ae55280a8fbd5c3d8ebccd5457ec6f705bc0adf1c940546eeb75add1dc2246", func := "aumbry/aumbrylaw06.GearCuts", spec := "gearCuts", unfollowed := true, recurses := true, apart := false }
def GearCutsSaid : Prop := gearCutsRow.holds Try.pinned (OpenSpec.ofChange gearCutsSpec)

/-- ITS FALSE NEIGHBOUR: 'it returns false'. Refute it at one input. -/
def gearCutsWrong : ChangeSpec := { name := "gearCuts", fn := fun _ => fun
  | [d1, d2, d3] => { results := [.lit (.bool false)], args := [d1, d2, d3] }
  | _ => none }
def GearCutsWrongFalsely : Prop := gearCutsRow.holds Try.pinned (OpenSpec.ofChange gearCutsWrong)

/-- 'aumbrylaw06.GearWhole': WHATEVER THE INPUT: true; the input reads as it did. -/
def gearWholeSpec : ChangeSpec := { name := "gearWhole", fn := fun _ => fun
  | [d1, d2, d3] => { results := [.lit (.bool true)], args := [d1, d2, d3] }
  | _ => none }
def gearWholeRow : OpenClaim := { program := "ytbckibjpaiealaa", sum := "49ae55280a8fbd5c3d8ebccd5457ec6f705bc0adf1c940546eeb75add1dc2246", func := "aumbry/aumbrylaw06.GearWhole", spec := "gearWhole", unfollowed := true, recurses := true, apart := false }
def GearWholeSaid : Prop := gearWholeRow.holds Try.pinned (OpenSpec.ofChange gearWholeSpec)

/-- ITS FALSE NEIGHBOUR: 'it returns false'. Refute it at one input. -/
def gearWholeWrong : ChangeSpec := { name := "gearWhole", fn := fun _ => fun
  | [d1, d2, d3] => { results := [.lit (.bool false)], args := [d1, d2, d3] }
  | _ => none }
def GearWholeWrongFalsely : Prop := gearWholeRow.holds Try.pinned (OpenSpec.ofChange gearWholeWrong)

/-- 'aumbrylaw06.GearAgain': WHATEVER THE INPUT: true; the input reads as it did. -/
def gearAgainSpec : ChangeSpec := { name := "gearAgain", fn := fun _ => fun
  | [d1, d2, d3, d4, d5] => { results := [.lit (.bool true)], args := [d1, d2, d3, d4, d5] }
  | _ => none }
def gearAgainRow : OpenClaim := { program := "ytbckibjpaiealaa", sum := "49ae55280a8fbd5c3d8ebccd5457ec6f705bc0adf1c940546eeb75add1dc2246", func := "aumbry/aumbrylaw06.GearAgain", spec := "gearAgain", unfollowed := true, recurses := true, apart := false }
def GearAgainSaid : Prop := gearAgainRow.holds Try.pinned (OpenSpec.ofChange gearAgainSpec)

/-- ITS FALSE NEIGHBOUR: 'it returns false'. Refute it at one input. -/
def gearAgainWrong : ChangeSpec := { name := "gearAgain", fn := fun _ => fun
  | [d1, d2, d3, d4, d5] => { results := [.lit (.bool false)], args := [d1, d2, d3, d4, d5] }
  | _ => none }
def GearAgainWrongFalsely : Prop := gearAgainRow.holds Try.pinned (OpenSpec.ofChange gearAgainWrong)

/-- 'aumbrylaw06.GearPieces': WHATEVER THE INPUT: true; the input reads as it did. -/
def gearPiecesSpec : ChangeSpec := { name := "gearPieces", fn := fun _ => fun
  | [d1, d2, d3] => { results := [.lit (.bool true)], args := [d1, d2, d3] }
  | _ => none }
def gearPiecesRow : OpenClaim := { program := "ytbckibjpaiealaa", sum := "49ae55280a8fbd5c3d8ebccd5457ec6f705bc0adf1c940546eeb75add1dc2246", func := "aumbry/aumbrylaw06.GearPieces", spec := "gearPieces", unfollowed := true, recurses := true, apart := false }
def GearPiecesSaid : Prop := gearPiecesRow.holds Try.pinned (OpenSpec.ofChange gearPiecesSpec)

/-- ITS FALSE NEIGHBOUR: 'it returns false'. Refute it at one input. -/
def gearPiecesWrong : ChangeSpec := { name := "gearPieces", fn := fun _ => fun
  | [d1, d2, d3] => { results := [.lit (.bool false)], args := [d1, d2, d3] }
  | _ => none }
def GearPiecesWrongFalsely : Prop := gearPiecesRow.holds Try.pinned (OpenSpec.ofChange gearPiecesWrong)

/-- 'aumbrylaw06.GearForks': WHATEVER THE INPUT: true; the input reads as it did. -/
def gearForksSpec : ChangeSpec := { name := "gearForks", fn := fun _ => fun
  | [d1, d2, d3, d4, d5] => { results := [.lit (.bool true)], args := [d1, d2, d3, d4, d5] }
  | _ => none }
def gearForksRow : OpenClaim := { program := "ytbckibjpaiealaa", sum := "49ae55280a8fbd5c3d8ebccd5457ec6f705bc0adf1c940546eeb75add1dc2246", func := "aumbry/aumbrylaw06.GearForks", spec := "gearForks", unfollowed := true, recurses := true, apart := false }
def GearForksSaid : Prop := gearForksRow.holds Try.pinned (OpenSpec.ofChange gearForksSpec)

/-- ITS FALSE NEIGHBOUR: 'it returns false'. Refute it at one input. -/
def gearForksWrong : ChangeSpec := { name := "gearForks", fn := fun _ => fun
  | [d1, d2, d3, d4, d5] => { results := [.lit (.bool false)], args := [d1, d2, d3, d4, d5] }
  | _ => none }
def GearForksWrongFalsely : Prop := gearForksRow.holds Try.pinned (OpenSpec.ofChange gearForksWrong)

/- THE SECOND FORM. 'bulk': how many values and letters a reading holds, each counted each time it is reached (what is shared counts as often as it is met; a slice's spare places count too). A statement '..UptoSaid' is the law's where the arguments, and the package variables that the reading takes, are together of bulk at most 1048576: NARROWER than '..Said'. Prove '..Said' where nothing that the law and all that it calls make is longer than what came in: it says more and counts as full. Else prove '..UptoSaid'. A law counts once. -/
mutual
def uptoBulk {H : Type} : DataW H → Nat
  | .lit (.string bytes) => bytes.length + 1
  | .lit _ => 1
  | .nil => 1
  | .ptr d => uptoBulk d + 1
  | .slice elems spare => uptoBulkAll elems + uptoBulkAll spare + 1
  | .agg parts => uptoBulkAll parts + 1
  | .iface _ d => uptoBulk d + 1
  | .map entries => uptoBulkEntries entries + 1
  | .held _ => 1
def uptoBulkAll {H : Type} : List (DataW H) → Nat
  | [] => 0
  | d :: r => uptoBulk d + uptoBulkAll r
def uptoBulkEntries {H : Type} : List (Lit × DataW H) → Nat
  | [] => 0
  | x :: r => uptoBulkEntry x + uptoBulkEntries r
def uptoBulkEntry {H : Type} : Lit × DataW H → Nat
  | (.string bytes, d) => bytes.length + uptoBulk d + 1
  | (_, d) => uptoBulk d + 1
 end
def uptoSmall : (H : Type) → List (DataW H) → Bool := fun _ ds => decide (uptoBulkAll ds ≤ 1048576)
def OpenSpec.upto (s : _root_.Go.ChangeSpec) : _root_.Go.OpenSpec := { _root_.Go.OpenSpec.ofChange s with cond := some uptoSmall }

/-- 'aumbrylaw06.GearTables', WHERE WHAT IT READS IS OF BULK AT MOST 1048576: true; the input reads as it did. -/
def gearTablesUptoRow : OpenClaim := { program := "ytbckibjpaiealaa", sum := "49ae55280a8fbd5c3d8ebccd5457ec6f705bc0adf1c940546eeb75add1dc2246", func := "aumbry/aumbrylaw06.GearTables", spec := "gearTables", unfollowed := true, recurses := true, apart := false, narrowed := true }
def GearTablesUptoSaid : Prop := gearTablesUptoRow.holds Try.pinned (OpenSpec.upto gearTablesSpec)

/-- 'aumbrylaw06.GearCuts', WHERE WHAT IT READS IS OF BULK AT MOST 1048576: true; the input reads as it did. -/
def gearCutsUptoRow : OpenClaim := { program := "ytbckibjpaiealaa", sum := "49ae55280a8fbd5c3d8ebccd5457ec6f705bc0adf1c940546eeb75add1dc2246", func := "aumbry/aumbrylaw06.GearCuts", spec := "gearCuts", unfollowed := true, recurses := true, apart := false, narrowed := true }
def GearCutsUptoSaid : Prop := gearCutsUptoRow.holds Try.pinned (OpenSpec.upto gearCutsSpec)

/-- 'aumbrylaw06.GearWhole', WHERE WHAT IT READS IS OF BULK AT MOST 1048576: true; the input reads as it did. -/
def gearWholeUptoRow : OpenClaim := { program := "ytbckibjpaiealaa", sum := "49ae55280a8fbd5c3d8ebccd5457ec6f705bc0adf1c940546eeb75add1dc2246", func := "aumbry/aumbrylaw06.GearWhole", spec := "gearWhole", unfollowed := true, recurses := true, apart := false, narrowed := true }
def GearWholeUptoSaid : Prop := gearWholeUptoRow.holds Try.pinned (OpenSpec.upto gearWholeSpec)

/-- 'aumbrylaw06.GearAgain', WHERE WHAT IT READS IS OF BULK AT MOST 1048576: true; the input reads as it did. -/
def gearAgainUptoRow : OpenClaim := { program := "ytbckibjpaiealaa", sum := "49ae55280a8fbd5c3d8ebccd5457ec6f705bc0adf1c940546eeb75add1dc2246", func := "aumbry/aumbrylaw06.GearAgain", spec := "gearAgain", unfollowed := true, recurses := true, apart := false, narrowed := true }
def GearAgainUptoSaid : Prop := gearAgainUptoRow.holds Try.pinned (OpenSpec.upto gearAgainSpec)

/-- 'aumbrylaw06.GearPieces', WHERE WHAT IT READS IS OF BULK AT MOST 1048576: true; the input reads as it did. -/
def gearPiecesUptoRow : OpenClaim := { program := "ytbckibjpaiealaa", sum := "49ae55280a8fbd5c3d8ebccd5457ec6f705bc0adf1c940546eeb75add1dc2246", func := "aumbry/aumbrylaw06.GearPieces", spec := "gearPieces", unfollowed := true, recurses := true, apart := false, narrowed := true }
def GearPiecesUptoSaid : Prop := gearPiecesUptoRow.holds Try.pinned (OpenSpec.upto gearPiecesSpec)

/-- 'aumbrylaw06.GearForks', WHERE WHAT IT READS IS OF BULK AT MOST 1048576: true; the input reads as it did. -/
def gearForksUptoRow : OpenClaim := { program := "ytbckibjpaiealaa", sum := "49ae55280a8fbd5c3d8ebccd5457ec6f705bc0adf1c940546eeb75add1dc2246", func := "aumbry/aumbrylaw06.GearForks", spec := "gearForks", unfollowed := true, recurses := true, apart := false, narrowed := true }
def GearForksUptoSaid : Prop := gearForksUptoRow.holds Try.pinned (OpenSpec.upto gearForksSpec)

end Rows
end Go.Proofs.Ytbckibjpaiealaa
