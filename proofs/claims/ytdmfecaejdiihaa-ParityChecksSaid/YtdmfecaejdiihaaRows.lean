/-
  No cell of these rows narrows 'for every input' (looked for: loops, veiled, ifaces, maps, wideKeys, modest, calm, conditions, laid).
  DERIVED. THE GIVEN ROWS OF THIS SEAT. 4 by the template 'for every input the law returns true; each argument reads behind the call as it read before'; 0 by the template 'total and deterministic' (their statements: YtdmfecaejdiihaaTotals.lean).
  GIVEN WITH THE SEED: the statements are not yours to turn. If you find one false, say at which input.
  Laid BY PROGRAM, IN A SANDBOX (cutbox-rows.mjs): the forced cells as the released guide's own fill.sh prints them over the translation 52f5318da284e01e… (all of the seat's roots in one cut). By AI agents, Wed Nov 11 2026. No macro, syntax, notation, axiom, sorry.
-/
import Derived.Test.YtdmfecaejdiihaaChecked
import GoSem.Claim
import GoSem.ClaimJoined
import GoSem.ClaimMapViews
import Derived.JoinedTies
import Derived.KernelRfl
namespace Go.Proofs.Ytdmfecaejdiihaa
/- THE CELL 'sum', in the pinned program and in every row, IS THE sha256 OF THE DUMP (.gsa) THAT YtdmfecaejdiihaaProg.lean LOADS. Nothing in Lean hashes anything: it is a label: what it is worth is what the hold of that sum in a sandbox is worth. -/
noncomputable def Try.pinned : Pinned := { name := "ytdmfecaejdiihaa", sum := "52f5318da284e01e8fb337a5b528e677237563c5cd48cb4d077e6cad4e78a475", checked := Try.checked }
namespace Rows
def none {H : Type} : Left H := { results := [], args := [] }

/-- 'aumbrylaw23.ParityEncodes': WHATEVER THE INPUT: true; the input reads as it did. -/
def parityEncodesSpec : ChangeSpec := { name := "parityEncodes", fn := fun _ => fun
  | [d1, d2] => { results := [.lit (.bool true)], args := [d1, d2] }
  | _ => none }
def parityEncodesRow : OpenClaim := { program := "ytdmfecaejdiihaa", sum := "52f5318da284e01e8fb337a5b528e677237563c5cd48cb4d077e6cad4e78a475", func := "aumbry/aumbrylaw23.ParityEncodes", spec := "parityEncodes", inPlace := ["internal/bytealg.IndexByte"], unfollowed := true, recurses := true, apart := false }
def ParityEncodesSaid : Prop := parityEncodesRow.holds Try.pinned (OpenSpec.ofChange parityEncodesSpec)

/-- ITS FALSE NEIGHBOUR: 'it returns false'. Refute it at one input. -/
def parityEncodesWrong : ChangeSpec := { name := "parityEncodes", fn := fun _ => fun
  | [d1, d2] => { results := [.lit (.bool false)], args := [d1, d2] }
  | _ => none }
def ParityEncodesWrongFalsely : Prop := parityEncodesRow.holds Try.pinned (OpenSpec.ofChange parityEncodesWrong)

/-- 'aumbrylaw23.ParityLinear': WHATEVER THE INPUT: true; the input reads as it did. -/
def parityLinearSpec : ChangeSpec := { name := "parityLinear", fn := fun _ => fun
  | [d1, d2, d3] => { results := [.lit (.bool true)], args := [d1, d2, d3] }
  | _ => none }
def parityLinearRow : OpenClaim := { program := "ytdmfecaejdiihaa", sum := "52f5318da284e01e8fb337a5b528e677237563c5cd48cb4d077e6cad4e78a475", func := "aumbry/aumbrylaw23.ParityLinear", spec := "parityLinear", inPlace := ["internal/bytealg.IndexByte"], unfollowed := true, recurses := true, apart := false }
def ParityLinearSaid : Prop := parityLinearRow.holds Try.pinned (OpenSpec.ofChange parityLinearSpec)

/-- ITS FALSE NEIGHBOUR: 'it returns false'. Refute it at one input. -/
def parityLinearWrong : ChangeSpec := { name := "parityLinear", fn := fun _ => fun
  | [d1, d2, d3] => { results := [.lit (.bool false)], args := [d1, d2, d3] }
  | _ => none }
def ParityLinearWrongFalsely : Prop := parityLinearRow.holds Try.pinned (OpenSpec.ofChange parityLinearWrong)

/-- 'aumbrylaw23.ParityRepairs': WHATEVER THE INPUT: true; the input reads as it did. -/
def parityRepairsSpec : ChangeSpec := { name := "parityRepairs", fn := fun _ => fun
  | [d1, d2] => { results := [.lit (.bool true)], args := [d1, d2] }
  | _ => none }
def parityRepairsRow : OpenClaim := { program := "ytdmfecaejdiihaa", sum := "52f5318da284e01e8fb337a5b528e677237563c5cd48cb4d077e6cad4e78a475", func := "aumbry/aumbrylaw23.ParityRepairs", spec := "parityRepairs", inPlace := ["internal/bytealg.IndexByte"], unfollowed := true, recurses := true, apart := false }
def ParityRepairsSaid : Prop := parityRepairsRow.holds Try.pinned (OpenSpec.ofChange parityRepairsSpec)

/-- ITS FALSE NEIGHBOUR: 'it returns false'. Refute it at one input. -/
def parityRepairsWrong : ChangeSpec := { name := "parityRepairs", fn := fun _ => fun
  | [d1, d2] => { results := [.lit (.bool false)], args := [d1, d2] }
  | _ => none }
def ParityRepairsWrongFalsely : Prop := parityRepairsRow.holds Try.pinned (OpenSpec.ofChange parityRepairsWrong)

/-- 'aumbrylaw23.ParityChecks': WHATEVER THE INPUT: true; the input reads as it did. -/
def parityChecksSpec : ChangeSpec := { name := "parityChecks", fn := fun _ => fun
  | [d1, d2] => { results := [.lit (.bool true)], args := [d1, d2] }
  | _ => none }
def parityChecksRow : OpenClaim := { program := "ytdmfecaejdiihaa", sum := "52f5318da284e01e8fb337a5b528e677237563c5cd48cb4d077e6cad4e78a475", func := "aumbry/aumbrylaw23.ParityChecks", spec := "parityChecks", inPlace := ["internal/bytealg.IndexByte"], unfollowed := true, recurses := true, apart := false }
def ParityChecksSaid : Prop := parityChecksRow.holds Try.pinned (OpenSpec.ofChange parityChecksSpec)

/-- ITS FALSE NEIGHBOUR: 'it returns false'. Refute it at one input. -/
def parityChecksWrong : ChangeSpec := { name := "parityChecks", fn := fun _ => fun
  | [d1, d2] => { results := [.lit (.bool false)], args := [d1, d2] }
  | _ => none }
def ParityChecksWrongFalsely : Prop := parityChecksRow.holds Try.pinned (OpenSpec.ofChange parityChecksWrong)

/- THE SECOND FORM. 'bulk': how many values and letters a reading holds, each counted each time it is reached (what is shared counts as often as it is met; a slice's spare places count too). A statement '..UptoSaid' is the law's where the arguments, and the package variables that the reading takes, are together of bulk at most 1048576: NARROWER than '..Said'. Prove '..Said' where nothing that the law and all that it calls make is longer than what came in: it says more and counts as full. Else prove '..UptoSaid'. A law counts once. -/
mutual
def uptoBulk {H : Type} : DataW H → Nat
  | .lit (.string bytes) => bytes.length + 1
  | .lit _ => 1
  | .nil => 1
  | .ptr d => uptoBulk d + 1
  | .slice elems spare => uptoBulkAll elems + uptoBulkAll spare + 1
  | .agg parts => uptoBulkAll parts + 1
  | .iface _ d => uptoBulk d + 1
  | .map entries => uptoBulkEntries entries + 1
  | .held _ => 1
def uptoBulkAll {H : Type} : List (DataW H) → Nat
  | [] => 0
  | d :: r => uptoBulk d + uptoBulkAll r
def uptoBulkEntries {H : Type} : List (Lit × DataW H) → Nat
  | [] => 0
  | x :: r => uptoBulkEntry x + uptoBulkEntries r
def uptoBulkEntry {H : Type} : Lit × DataW H → Nat
  | (.string bytes, d) => bytes.length + uptoBulk d + 1
  | (_, d) => uptoBulk d + 1
 end
def uptoSmall : (H : Type) → List (DataW H) → Bool := fun _ ds => decide (uptoBulkAll ds ≤ 1048576)
def OpenSpec.upto (s : _root_.Go.ChangeSpec) : _root_.Go.OpenSpec := { _root_.Go.OpenSpec.ofChange s with cond := some uptoSmall }

/-- 'aumbrylaw23.ParityEncodes', WHERE WHAT IT READS IS OF BULK AT MOST 1048576: true; the input reads as it did. -/
def parityEncodesUptoRow : OpenClaim := { program := "ytdmfecaejdiihaa", sum := "52f5318da284e01e8fb337a5b528e677237563c5cd48cb4d077e6cad4e78a475", func := "aumbry/aumbrylaw23.ParityEncodes", spec := "parityEncodes", inPlace := ["internal/bytealg.IndexByte"], unfollowed := true, recurses := true, apart := false, narrowed := true }
def ParityEncodesUptoSaid : Prop := parityEncodesUptoRow.holds Try.pinned (OpenSpec.upto parityEncodesSpec)

/-- 'aumbrylaw23.ParityLinear', WHERE WHAT IT READS IS OF BULK AT MOST 1048576: true; the input reads as it did. -/
def parityLinearUptoRow : OpenClaim := { program := "ytdmfecaejdiihaa", sum := "52f5318da284e01e8fb337a5b528e677237563c5cd48cb4d077e6cad4e78a475", func := "aumbry/aumbrylaw23.ParityLinear", spec := "parityLinear", inPlace := ["internal/bytealg.IndexByte"], unfollowed := true, recurses := true, apart := false, narrowed := true }
def ParityLinearUptoSaid : Prop := parityLinearUptoRow.holds Try.pinned (OpenSpec.upto parityLinearSpec)

/-- 'aumbrylaw23.ParityRepairs', WHERE WHAT IT READS IS OF BULK AT MOST 1048576: true; the input reads as it did. -/
def parityRepairsUptoRow : OpenClaim := { program := "ytdmfecaejdiihaa", sum := "52f5318da284e01e8fb337a5b528e677237563c5cd48cb4d077e6cad4e78a475", func := "aumbry/aumbrylaw23.ParityRepairs", spec := "parityRepairs", inPlace := ["internal/bytealg.IndexByte"], unfollowed := true, recurses := true, apart := false, narrowed := true }
def ParityRepairsUptoSaid : Prop := parityRepairsUptoRow.holds Try.pinned (OpenSpec.upto parityRepairsSpec)

/-- 'aumbrylaw23.ParityChecks', WHERE WHAT IT READS IS OF BULK AT MOST 1048576: true; the input reads as it did. -/
def parityChecksUptoRow : OpenClaim := { program := "ytdmfecaejdiihaa", sum := "52f5318da284e01e8fb337a5b528e677237563c5cd48cb4d077e6cad4e78a475", func := "aumbry/aumbrylaw23.ParityChecks", spec := "parityChecks", inPlace := ["internal/bytealg.IndexByte"], unfollowed := true, recurses := true, apart := false, narrowed := true }
def ParityChecksUptoSaid : Prop := parityChecksUptoRow.holds Try.pinned (OpenSpec.upto parityChecksSpec)

end Rows
end Go.Proofs.Ytdmfecaejdiihaa
