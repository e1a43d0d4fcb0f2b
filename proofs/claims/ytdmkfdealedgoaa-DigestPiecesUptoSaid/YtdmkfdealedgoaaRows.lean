/-
  No cell of these rows narrows 'for every input' (looked for: loops, veiled, ifaces, maps, wideKeys, modest, calm, conditions, laid).
  DERIVED. THE GIVEN ROWS OF THIS SEAT. 6 by the template 'for every input the law returns true; each argument reads behind the call as it read before'; 0 by the template 'total and deterministic' (their statements: YtdmkfdealedgoaaTotals.lean).
  GIVEN WITH THE SEED: the statements are not yours to turn. If you find one false, say at which input.
  Laid BY PROGRAM, IN A SANDBOX (cutbox-rows.mjs): the forced cells as the released guide's own fill.sh prints them over the translation 18fb4da38162e87f… (all of the seat's roots in one cut). By AI agents, Wed Nov 11 2026. No macro, syntax, notation, axiom, sorry.
-/
import Derived.Test.YtdmkfdealedgoaaChecked
import GoSem.Claim
import GoSem.ClaimJoined
import GoSem.ClaimMapViews
import Derived.JoinedTies
import Derived.KernelRfl
namespace Go.Proofs.Ytdmkfdealedgoaa
/- THE CELL 'sum', in the pinned program and in every row, IS THE sha256 OF THE DUMP (.gsa) THAT YtdmkfdealedgoaaProg.lean LOADS. Nothing in Lean hashes anything: it is a label: what it is worth is what the hold of that sum in a sandbox is worth. -/
noncomputable def Try.pinned : Pinned := { name := "ytdmkfdealedgoaa", sum := "18fb4da38162e87f44f7622ec70cc086e6872c4b15c0263b3642953261912a95", checked := Try.checked }
namespace Rows
def none {H : Type} : Left H := { results := [], args := [] }

/-- 'aumbrylaw02.DigestSums': WHATEVER THE INPUT: true; the input reads as it did. -/
def digestSumsSpec : ChangeSpec := { name := "digestSums", fn := fun _ => fun
  | [d] => { results := [.lit (.bool true)], args := [d] }
  | _ => none }
def digestSumsRow : OpenClaim := { program := "ytdmkfdealedgoaa", sum := "18fb4da38162e87f44f7622ec70cc086e6872c4b15c0263b3642953261912a95", func := "aumbry/aumbrylaw02.DigestSums", spec := "digestSums", apart := false }
def DigestSumsSaid : Prop := digestSumsRow.holds Try.pinned (OpenSpec.ofChange digestSumsSpec)

/-- ITS FALSE NEIGHBOUR: 'it returns false'. Refute it at one input. -/
def digestSumsWrong : ChangeSpec := { name := "digestSums", fn := fun _ => fun
  | [d] => { results := [.lit (.bool false)], args := [d] }
  | _ => none }
def DigestSumsWrongFalsely : Prop := digestSumsRow.holds Try.pinned (OpenSpec.ofChange digestSumsWrong)

/-- 'aumbrylaw02.DigestCrcs': WHATEVER THE INPUT: true; the input reads as it did. -/
def digestCrcsSpec : ChangeSpec := { name := "digestCrcs", fn := fun _ => fun
  | [d1, d2] => { results := [.lit (.bool true)], args := [d1, d2] }
  | _ => none }
def digestCrcsRow : OpenClaim := { program := "ytdmkfdealedgoaa", sum := "18fb4da38162e87f44f7622ec70cc086e6872c4b15c0263b3642953261912a95", func := "aumbry/aumbrylaw02.DigestCrcs", spec := "digestCrcs", apart := false }
def DigestCrcsSaid : Prop := digestCrcsRow.holds Try.pinned (OpenSpec.ofChange digestCrcsSpec)

/-- ITS FALSE NEIGHBOUR: 'it returns false'. Refute it at one input. -/
def digestCrcsWrong : ChangeSpec := { name := "digestCrcs", fn := fun _ => fun
  | [d1, d2] => { results := [.lit (.bool false)], args := [d1, d2] }
  | _ => none }
def DigestCrcsWrongFalsely : Prop := digestCrcsRow.holds Try.pinned (OpenSpec.ofChange digestCrcsWrong)

/-- 'aumbrylaw02.DigestJoins': WHATEVER THE INPUT: true; the input reads as it did. -/
def digestJoinsSpec : ChangeSpec := { name := "digestJoins", fn := fun _ => fun
  | [d1, d2] => { results := [.lit (.bool true)], args := [d1, d2] }
  | _ => none }
def digestJoinsRow : OpenClaim := { program := "ytdmkfdealedgoaa", sum := "18fb4da38162e87f44f7622ec70cc086e6872c4b15c0263b3642953261912a95", func := "aumbry/aumbrylaw02.DigestJoins", spec := "digestJoins", apart := false }
def DigestJoinsSaid : Prop := digestJoinsRow.holds Try.pinned (OpenSpec.ofChange digestJoinsSpec)

/-- ITS FALSE NEIGHBOUR: 'it returns false'. Refute it at one input. -/
def digestJoinsWrong : ChangeSpec := { name := "digestJoins", fn := fun _ => fun
  | [d1, d2] => { results := [.lit (.bool false)], args := [d1, d2] }
  | _ => none }
def DigestJoinsWrongFalsely : Prop := digestJoinsRow.holds Try.pinned (OpenSpec.ofChange digestJoinsWrong)

/-- 'aumbrylaw02.DigestApart': WHATEVER THE INPUT: true; the input reads as it did. -/
def digestApartSpec : ChangeSpec := { name := "digestApart", fn := fun _ => fun
  | [d1, d2, d3] => { results := [.lit (.bool true)], args := [d1, d2, d3] }
  | _ => none }
def digestApartRow : OpenClaim := { program := "ytdmkfdealedgoaa", sum := "18fb4da38162e87f44f7622ec70cc086e6872c4b15c0263b3642953261912a95", func := "aumbry/aumbrylaw02.DigestApart", spec := "digestApart", apart := false }
def DigestApartSaid : Prop := digestApartRow.holds Try.pinned (OpenSpec.ofChange digestApartSpec)

/-- ITS FALSE NEIGHBOUR: 'it returns false'. Refute it at one input. -/
def digestApartWrong : ChangeSpec := { name := "digestApart", fn := fun _ => fun
  | [d1, d2, d3] => { results := [.lit (.bool false)], args := [d1, d2, d3] }
  | _ => none }
def DigestApartWrongFalsely : Prop := digestApartRow.holds Try.pinned (OpenSpec.ofChange digestApartWrong)

/-- 'aumbrylaw02.DigestPieces': WHATEVER THE INPUT: true; the input reads as it did. -/
def digestPiecesSpec : ChangeSpec := { name := "digestPieces", fn := fun _ => fun
  | [d] => { results := [.lit (.bool true)], args := [d] }
  | _ => none }
def digestPiecesRow : OpenClaim := { program := "ytdmkfdealedgoaa", sum := "18fb4da38162e87f44f7622ec70cc086e6872c4b15c0263b3642953261912a95", func := "aumbry/aumbrylaw02.DigestPieces", spec := "digestPieces", apart := false }
def DigestPiecesSaid : Prop := digestPiecesRow.holds Try.pinned (OpenSpec.ofChange digestPiecesSpec)

/-- ITS FALSE NEIGHBOUR: 'it returns false'. Refute it at one input. -/
def digestPiecesWrong : ChangeSpec := { name := "digestPieces", fn := fun _ => fun
  | [d] => { results := [.lit (.bool false)], args := [d] }
  | _ => none }
def DigestPiecesWrongFalsely : Prop := digestPiecesRow.holds Try.pinned (OpenSpec.ofChange digestPiecesWrong)

/-- 'aumbrylaw02.DigestForks': WHATEVER THE INPUT: true; the input reads as it did. -/
def digestForksSpec : ChangeSpec := { name := "digestForks", fn := fun _ => fun
  | [d1, d2, d3] => { results := [.lit (.bool true)], args := [d1, d2, d3] }
  | _ => none }
def digestForksRow : OpenClaim := { program := "ytdmkfdealedgoaa", sum := "18fb4da38162e87f44f7622ec70cc086e6872c4b15c0263b3642953261912a95", func := "aumbry/aumbrylaw02.DigestForks", spec := "digestForks", apart := false }
def DigestForksSaid : Prop := digestForksRow.holds Try.pinned (OpenSpec.ofChange digestForksSpec)

/-- ITS FALSE NEIGHBOUR: 'it returns false'. Refute it at one input. -/
def digestForksWrong : ChangeSpec := { name := "digestForks", fn := fun _ => fun
  | [d1, d2, d3] => { results := [.lit (.bool false)], args := [d1, d2, d3] }
  | _ => none }
def DigestForksWrongFalsely : Prop := digestForksRow.holds Try.pinned (OpenSpec.ofChange digestForksWrong)

/- THE SECOND FORM. 'bulk': how many values and letters a reading holds, each counted each time it is reached (what is shared counts as often as it is met; a slice's spare places count too). A statement '..UptoSaid' is the law's where the arguments, and the package variables that the reading takes, are together of bulk at most 1048576: NARROWER than '..Said'. Prove '..Said' where nothing that the law and all that it calls make is longer than what came in: it says more and counts as full. Else prove '..UptoSaid'. A law counts once. -/
mutual
def uptoBulk {H : Type} : DataW H → Nat
  | .lit (.string bytes) => bytes.length + 1
  | .lit _ => 1
  | .nil => 1
  | .ptr d => uptoBulk d + 1
  | .slice elems spare => uptoBulkAll elems + uptoBulkAll spare + 1
  | .agg parts => uptoBulkAll parts + 1
  | .iface _ d => uptoBulk d + 1
  | .map entries => uptoBulkEntries entries + 1
  | .held _ => 1
def uptoBulkAll {H : Type} : List (DataW H) → Nat
  | [] => 0
  | d :: r => uptoBulk d + uptoBulkAll r
def uptoBulkEntries {H : Type} : List (Lit × DataW H) → Nat
  | [] => 0
  | x :: r => uptoBulkEntry x + uptoBulkEntries r
def uptoBulkEntry {H : Type} : Lit × DataW H → Nat
  | (.string bytes, d) => bytes.length + uptoBulk d + 1
  | (_, d) => uptoBulk d + 1
 end
def uptoSmall : (H : Type) → List (DataW H) → Bool := fun _ ds => decide (uptoBulkAll ds ≤ 1048576)
def OpenSpec.upto (s : _root_.Go.ChangeSpec) : _root_.Go.OpenSpec := { _root_.Go.OpenSpec.ofChange s with cond := some uptoSmall }

/-- 'aumbrylaw02.DigestSums', WHERE WHAT IT READS IS OF BULK AT MOST 1048576: true; the input reads as it did. -/
def digestSumsUptoRow : OpenClaim := { program := "ytdmkfdealedgoaa", sum := "18fb4da38162e87f44f7622ec70cc086e6872c4b15c0263b3642953261912a95", func := "aumbry/aumbrylaw02.DigestSums", spec := "digestSums", apart := false, narrowed := true }
def DigestSumsUptoSaid : Prop := digestSumsUptoRow.holds Try.pinned (OpenSpec.upto digestSumsSpec)

/-- 'aumbrylaw02.DigestCrcs', WHERE WHAT IT READS IS OF BULK AT MOST 1048576: true; the input reads as it did. -/
def digestCrcsUptoRow : OpenClaim := { program := "ytdmkfdealedgoaa", sum := "18fb4da38162e87f44f7622ec70cc086e6872c4b15c0263b3642953261912a95", func := "aumbry/aumbrylaw02.DigestCrcs", spec := "digestCrcs", apart := false, narrowed := true }
def DigestCrcsUptoSaid : Prop := digestCrcsUptoRow.holds Try.pinned (OpenSpec.upto digestCrcsSpec)

/-- 'aumbrylaw02.DigestJoins', WHERE WHAT IT READS IS OF BULK AT MOST 1048576: true; the input reads as it did. -/
def digestJoinsUptoRow : OpenClaim := { program := "ytdmkfdealedgoaa", sum := "18fb4da38162e87f44f7622ec70cc086e6872c4b15c0263b3642953261912a95", func := "aumbry/aumbrylaw02.DigestJoins", spec := "digestJoins", apart := false, narrowed := true }
def DigestJoinsUptoSaid : Prop := digestJoinsUptoRow.holds Try.pinned (OpenSpec.upto digestJoinsSpec)

/-- 'aumbrylaw02.DigestApart', WHERE WHAT IT READS IS OF BULK AT MOST 1048576: true; the input reads as it did. -/
def digestApartUptoRow : OpenClaim := { program := "ytdmkfdealedgoaa", sum := "18fb4da38162e87f44f7622ec70cc086e6872c4b15c0263b3642953261912a95", func := "aumbry/aumbrylaw02.DigestApart", spec := "digestApart", apart := false, narrowed := true }
def DigestApartUptoSaid : Prop := digestApartUptoRow.holds Try.pinned (OpenSpec.upto digestApartSpec)

/-- 'aumbrylaw02.DigestPieces', WHERE WHAT IT READS IS OF BULK AT MOST 1048576: true; the input reads as it did. -/
def digestPiecesUptoRow : OpenClaim := { program := "ytdmkfdealedgoaa", sum := "18fb4da38162e87f44f7622ec70cc086e6872c4b15c0263b3642953261912a95", func := "aumbry/aumbrylaw02.DigestPieces", spec := "digestPieces", apart := false, narrowed := true }
def DigestPiecesUptoSaid : Prop := digestPiecesUptoRow.holds Try.pinned (OpenSpec.upto digestPiecesSpec)

/-- 'aumbrylaw02.DigestForks', WHERE WHAT IT READS IS OF BULK AT MOST 1048576: true; the input reads as it did. -/
def digestForksUptoRow : OpenClaim := { program := "ytdmkfdealedgoaa", sum := "18fb4da38162e87f44f7622ec70cc086e6872c4b15c0263b3642953261912a95", func := "aumbry/aumbrylaw02.DigestForks", spec := "digestForks", apart := false, narrowed := true }
def DigestForksUptoSaid : Prop := digestForksUptoRow.holds Try.pinned (OpenSpec.upto digestForksSpec)

end Rows
end Go.Proofs.Ytdmkfdealedgoaa
