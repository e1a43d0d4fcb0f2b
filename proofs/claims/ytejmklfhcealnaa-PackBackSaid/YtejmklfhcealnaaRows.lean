/-
  No cell of these rows narrows 'for every input' (looked for: loops, veiled, ifaces, maps, wideKeys, modest, calm, conditions, laid).
  DERIVED. THE GIVEN ROWS OF THIS SEAT. 7 by the template 'for every input the law returns true; each argument reads behind the call as it read before'; 0 by the template 'total and deterministic' (their statements: YtejmklfhcealnaaTotals.lean).
  GIVEN WITH THE SEED: the statements are not yours to turn. If you find one false, say at which input.
  Laid BY PROGRAM, IN A SANDBOX (cutbox-rows.mjs): the forced cells as the released guide's own fill.sh prints them over the translation 945239ebd4680250… (all of the seat's roots in one cut). By AI agents, Wed Nov 11 2026. No macro, syntax, notation, axiom, sorry.
-/
import Derived.Test.YtejmklfhcealnaaChecked
import GoSem.Claim
import GoSem.ClaimJoined
import GoSem.ClaimMapViews
import Derived.JoinedTies
import Derived.KernelRfl
namespace Go.Proofs.Ytejmklfhcealnaa
/- THE CELL 'sum', in the pinned program and in every row, IS THE sha256 OF THE DUMP (.gsa) THAT YtejmklfhcealnaaProg.lean LOADS. Nothing in Lean hashes anything: it is a label: what it is worth is what the hold of that sum in a sandbox is worth. -/
noncomputable def Try.pinned : Pinned := { name := "ytejmklfhcealnaa", sum := "945239ebd468025009a87551102684a597c64ae3e96cccb991b648c9295172fa", checked := Try.checked }
namespace Rows
def none {H : Type} : Left H := { results := [], args := [] }

/-- 'aumbrylaw11.PackFits': WHATEVER THE INPUT: true; the input reads as it did. -/
def packFitsSpec : ChangeSpec := { name := "packFits", fn := fun _ => fun
  | [d1, d2] => { results := [.lit (.bool true)], args := [d1, d2] }
  | _ => none }
def packFitsRow : OpenClaim := { program := "ytejmklfhcealnaa", sum := "945239ebd468025009a87551102684a597c64ae3e96cccb991b648c9295172fa", func := "aumbry/aumbrylaw11.PackFits", spec := "packFits", apart := false }
def PackFitsSaid : Prop := packFitsRow.holds Try.pinned (OpenSpec.ofChange packFitsSpec)

/-- ITS FALSE NEIGHBOUR: 'it returns false'. Refute it at one input. -/
def packFitsWrong : ChangeSpec := { name := "packFits", fn := fun _ => fun
  | [d1, d2] => { results := [.lit (.bool false)], args := [d1, d2] }
  | _ => none }
def PackFitsWrongFalsely : Prop := packFitsRow.holds Try.pinned (OpenSpec.ofChange packFitsWrong)

/-- 'aumbrylaw11.PackChunks': WHATEVER THE INPUT: true; the input reads as it did. -/
def packChunksSpec : ChangeSpec := { name := "packChunks", fn := fun _ => fun
  | [d1, d2] => { results := [.lit (.bool true)], args := [d1, d2] }
  | _ => none }
def packChunksRow : OpenClaim := { program := "ytejmklfhcealnaa", sum := "945239ebd468025009a87551102684a597c64ae3e96cccb991b648c9295172fa", func := "aumbry/aumbrylaw11.PackChunks", spec := "packChunks", apart := false }
def PackChunksSaid : Prop := packChunksRow.holds Try.pinned (OpenSpec.ofChange packChunksSpec)

/-- ITS FALSE NEIGHBOUR: 'it returns false'. Refute it at one input. -/
def packChunksWrong : ChangeSpec := { name := "packChunks", fn := fun _ => fun
  | [d1, d2] => { results := [.lit (.bool false)], args := [d1, d2] }
  | _ => none }
def PackChunksWrongFalsely : Prop := packChunksRow.holds Try.pinned (OpenSpec.ofChange packChunksWrong)

/-- 'aumbrylaw11.PackAdds': WHATEVER THE INPUT: true; the input reads as it did. -/
def packAddsSpec : ChangeSpec := { name := "packAdds", fn := fun _ => fun
  | [d1, d2, d3] => { results := [.lit (.bool true)], args := [d1, d2, d3] }
  | _ => none }
def packAddsRow : OpenClaim := { program := "ytejmklfhcealnaa", sum := "945239ebd468025009a87551102684a597c64ae3e96cccb991b648c9295172fa", func := "aumbry/aumbrylaw11.PackAdds", spec := "packAdds", apart := false }
def PackAddsSaid : Prop := packAddsRow.holds Try.pinned (OpenSpec.ofChange packAddsSpec)

/-- ITS FALSE NEIGHBOUR: 'it returns false'. Refute it at one input. -/
def packAddsWrong : ChangeSpec := { name := "packAdds", fn := fun _ => fun
  | [d1, d2, d3] => { results := [.lit (.bool false)], args := [d1, d2, d3] }
  | _ => none }
def PackAddsWrongFalsely : Prop := packAddsRow.holds Try.pinned (OpenSpec.ofChange packAddsWrong)

/-- 'aumbrylaw11.PackForks': WHATEVER THE INPUT: true; the input reads as it did. -/
def packForksSpec : ChangeSpec := { name := "packForks", fn := fun _ => fun
  | [d1, d2, d3] => { results := [.lit (.bool true)], args := [d1, d2, d3] }
  | _ => none }
def packForksRow : OpenClaim := { program := "ytejmklfhcealnaa", sum := "945239ebd468025009a87551102684a597c64ae3e96cccb991b648c9295172fa", func := "aumbry/aumbrylaw11.PackForks", spec := "packForks", apart := false }
def PackForksSaid : Prop := packForksRow.holds Try.pinned (OpenSpec.ofChange packForksSpec)

/-- ITS FALSE NEIGHBOUR: 'it returns false'. Refute it at one input. -/
def packForksWrong : ChangeSpec := { name := "packForks", fn := fun _ => fun
  | [d1, d2, d3] => { results := [.lit (.bool false)], args := [d1, d2, d3] }
  | _ => none }
def PackForksWrongFalsely : Prop := packForksRow.holds Try.pinned (OpenSpec.ofChange packForksWrong)

/-- 'aumbrylaw11.PackParses': WHATEVER THE INPUT: true; the input reads as it did. -/
def packParsesSpec : ChangeSpec := { name := "packParses", fn := fun _ => fun
  | [d] => { results := [.lit (.bool true)], args := [d] }
  | _ => none }
def packParsesRow : OpenClaim := { program := "ytejmklfhcealnaa", sum := "945239ebd468025009a87551102684a597c64ae3e96cccb991b648c9295172fa", func := "aumbry/aumbrylaw11.PackParses", spec := "packParses", unfollowed := true, recurses := true, apart := false }
def PackParsesSaid : Prop := packParsesRow.holds Try.pinned (OpenSpec.ofChange packParsesSpec)

/-- ITS FALSE NEIGHBOUR: 'it returns false'. Refute it at one input. -/
def packParsesWrong : ChangeSpec := { name := "packParses", fn := fun _ => fun
  | [d] => { results := [.lit (.bool false)], args := [d] }
  | _ => none }
def PackParsesWrongFalsely : Prop := packParsesRow.holds Try.pinned (OpenSpec.ofChange packParsesWrong)

/-- 'aumbrylaw11.PackTurned': WHATEVER THE INPUT: true; the input reads as it did. -/
def packTurnedSpec : ChangeSpec := { name := "packTurned", fn := fun _ => fun
  | [d1, d2, d3, d4] => { results := [.lit (.bool true)], args := [d1, d2, d3, d4] }
  | _ => none }
def packTurnedRow : OpenClaim := { program := "ytejmklfhcealnaa", sum := "945239ebd468025009a87551102684a597c64ae3e96cccb991b648c9295172fa", func := "aumbry/aumbrylaw11.PackTurned", spec := "packTurned", unfollowed := true, recurses := true, apart := false }
def PackTurnedSaid : Prop := packTurnedRow.holds Try.pinned (OpenSpec.ofChange packTurnedSpec)

/-- ITS FALSE NEIGHBOUR: 'it returns false'. Refute it at one input. -/
def packTurnedWrong : ChangeSpec := { name := "packTurned", fn := fun _ => fun
  | [d1, d2, d3, d4] => { results := [.lit (.bool false)], args := [d1, d2, d3, d4] }
  | _ => none }
def PackTurnedWrongFalsely : Prop := packTurnedRow.holds Try.pinned (OpenSpec.ofChange packTurnedWrong)

/-- 'aumbrylaw11.PackBack': WHATEVER THE INPUT: true; the input reads as it did. -/
def packBackSpec : ChangeSpec := { name := "packBack", fn := fun _ => fun
  | [d1, d2, d3] => { results := [.lit (.bool true)], args := [d1, d2, d3] }
  | _ => none }
def packBackRow : OpenClaim := { program := "ytejmklfhcealnaa", sum := "945239ebd468025009a87551102684a597c64ae3e96cccb991b648c9295172fa", func := "aumbry/aumbrylaw11.PackBack", spec := "packBack", unfollowed := true, recurses := true, apart := false }
def PackBackSaid : Prop := packBackRow.holds Try.pinned (OpenSpec.ofChange packBackSpec)

/-- ITS FALSE NEIGHBOUR: 'it returns false'. Refute it at one input. -/
def packBackWrong : ChangeSpec := { name := "packBack", fn := fun _ => fun
  | [d1, d2, d3] => { results := [.lit (.bool false)], args := [d1, d2, d3] }
  | _ => none }
def PackBackWrongFalsely : Prop := packBackRow.holds Try.pinned (OpenSpec.ofChange packBackWrong)

/- THE SECOND FORM. 'bulk': how many values and letters a reading holds, each counted each time it is reached (what is shared counts as often as it is met; a slice's spare places count too). A statement '..UptoSaid' is the law's where the arguments, and the package variables that the reading takes, are together of bulk at most 1048576: NARROWER than '..Said'. Prove '..Said' where nothing that the law and all that it calls make is longer than what came in: it says more and counts as full. Else prove '..UptoSaid'. A law counts once. -/
mutual
def uptoBulk {H : Type} : DataW H → Nat
  | .lit (.string bytes) => bytes.length + 1
  | .lit _ => 1
  | .nil => 1
  | .ptr d => uptoBulk d + 1
  | .slice elems spare => uptoBulkAll elems + uptoBulkAll spare + 1
  | .agg parts => uptoBulkAll parts + 1
  | .iface _ d => uptoBulk d + 1
  | .map entries => uptoBulkEntries entries + 1
  | .held _ => 1
def uptoBulkAll {H : Type} : List (DataW H) → Nat
  | [] => 0
  | d :: r => uptoBulk d + uptoBulkAll r
def uptoBulkEntries {H : Type} : List (Lit × DataW H) → Nat
  | [] => 0
  | x :: r => uptoBulkEntry x + uptoBulkEntries r
def uptoBulkEntry {H : Type} : Lit × DataW H → Nat
  | (.string bytes, d) => bytes.length + uptoBulk d + 1
  | (_, d) => uptoBulk d + 1
 end
def uptoSmall : (H : Type) → List (DataW H) → Bool := fun _ ds => decide (uptoBulkAll ds ≤ 1048576)
def OpenSpec.upto (s : _root_.Go.ChangeSpec) : _root_.Go.OpenSpec := { _root_.Go.OpenSpec.ofChange s with cond := some uptoSmall }

/-- 'aumbrylaw11.PackFits', WHERE WHAT IT READS IS OF BULK AT MOST 1048576: true; the input reads as it did. -/
def packFitsUptoRow : OpenClaim := { program := "ytejmklfhcealnaa", sum := "945239ebd468025009a87551102684a597c64ae3e96cccb991b648c9295172fa", func := "aumbry/aumbrylaw11.PackFits", spec := "packFits", apart := false, narrowed := true }
def PackFitsUptoSaid : Prop := packFitsUptoRow.holds Try.pinned (OpenSpec.upto packFitsSpec)

/-- 'aumbrylaw11.PackChunks', WHERE WHAT IT READS IS OF BULK AT MOST 1048576: true; the input reads as it did. -/
def packChunksUptoRow : OpenClaim := { program := "ytejmklfhcealnaa", sum := "945239ebd468025009a87551102684a597c64ae3e96cccb991b648c9295172fa", func := "aumbry/aumbrylaw11.PackChunks", spec := "packChunks", apart := false, narrowed := true }
def PackChunksUptoSaid : Prop := packChunksUptoRow.holds Try.pinned (OpenSpec.upto packChunksSpec)

/-- 'aumbrylaw11.PackAdds', WHERE WHAT IT READS IS OF BULK AT MOST 1048576: true; the input reads as it did. -/
def packAddsUptoRow : OpenClaim := { program := "ytejmklfhcealnaa", sum := "945239ebd468025009a87551102684a597c64ae3e96cccb991b648c9295172fa", func := "aumbry/aumbrylaw11.PackAdds", spec := "packAdds", apart := false, narrowed := true }
def PackAddsUptoSaid : Prop := packAddsUptoRow.holds Try.pinned (OpenSpec.upto packAddsSpec)

/-- 'aumbrylaw11.PackForks', WHERE WHAT IT READS IS OF BULK AT MOST 1048576: true; the input reads as it did. -/
def packForksUptoRow : OpenClaim := { program := "ytejmklfhcealnaa", sum := "945239ebd468025009a87551102684a597c64ae3e96cccb991b648c9295172fa", func := "aumbry/aumbrylaw11.PackForks", spec := "packForks", apart := false, narrowed := true }
def PackForksUptoSaid : Prop := packForksUptoRow.holds Try.pinned (OpenSpec.upto packForksSpec)

/-- 'aumbrylaw11.PackParses', WHERE WHAT IT READS IS OF BULK AT MOST 1048576: true; the input reads as it did. -/
def packParsesUptoRow : OpenClaim := { program := "ytejmklfhcealnaa", sum := "945239ebd468025009a87551102684a597c64ae3e96cccb991b648c9295172fa", func := "aumbry/aumbrylaw11.PackParses", spec := "packParses", unfollowed := true, recurses := true, apart := false, narrowed := true }
def PackParsesUptoSaid : Prop := packParsesUptoRow.holds Try.pinned (OpenSpec.upto packParsesSpec)

/-- 'aumbrylaw11.PackTurned', WHERE WHAT IT READS IS OF BULK AT MOST 1048576: true; the input reads as it did. -/
def packTurnedUptoRow : OpenClaim := { program := "ytejmklfhcealnaa", sum := "945239ebd468025009a87551102684a597c64ae3e96cccb991b648c9295172fa", func := "aumbry/aumbrylaw11.PackTurned", spec := "packTurned", unfollowed := true, recurses := true, apart := false, narrowed := true }
def PackTurnedUptoSaid : Prop := packTurnedUptoRow.holds Try.pinned (OpenSpec.upto packTurnedSpec)

/-- 'aumbrylaw11.PackBack', WHERE WHAT IT READS IS OF BULK AT MOST 1048576: true; the input reads as it did. -/
def packBackUptoRow : OpenClaim := { program := "ytejmklfhcealnaa", sum := "945239ebd468025009a87551102684a597c64ae3e96cccb991b648c9295172fa", func := "aumbry/aumbrylaw11.PackBack", spec := "packBack", unfollowed := true, recurses := true, apart := false, narrowed := true }
def PackBackUptoSaid : Prop := packBackUptoRow.holds Try.pinned (OpenSpec.upto packBackSpec)

end Rows
end Go.Proofs.Ytejmklfhcealnaa
