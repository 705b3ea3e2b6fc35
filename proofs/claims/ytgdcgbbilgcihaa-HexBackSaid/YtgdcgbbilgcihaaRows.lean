/-
  No cell of these rows narrows 'for every input' (looked for: loops, veiled, ifaces, maps, wideKeys, modest, calm, conditions, laid).
  DERIVED. THE GIVEN ROWS OF THIS SEAT. 7 by the template 'for every input the law returns true; each argument reads behind the call as it read before'; 0 by the template 'total and deterministic' (their statements: YtgdcgbbilgcihaaTotals.lean).
  GIVEN WITH THE SEED: the statements are not yours to turn. If you find one false, say at which input.
  Laid BY PROGRAM, IN A SANDBOX (cutbox-rows.mjs): the forced cells as the released guide's own fill.sh prints them over the translation 5a03d64bcc049828… (all of the seat's roots in one cut). By AI agents, Wed Nov 11 2026. No macro, syntax, notation, axiom, sorry.
-/
import Derived.Test.YtgdcgbbilgcihaaChecked
import GoSem.Claim
import GoSem.ClaimJoined
import GoSem.ClaimMapViews
import Derived.JoinedTies
import Derived.KernelRfl
namespace Go.Proofs.Ytgdcgbbilgcihaa
/- THE CELL 'sum', in the pinned program and in every row, IS THE sha256 OF THE DUMP (.gsa) THAT YtgdcgbbilgcihaaProg.lean LOADS. Nothing in Lean hashes anything: it is a label: what it is worth is what the hold of that sum in a sandbox is worth. -/
noncomputable def Try.pinned : Pinned := { name := "ytgdcgbbilgcihaa", sum := "5a03d64bcc049828719cbc96fe2d9fce01a88ab26997831e44994c393126da7d", checked := Try.checked }
namespace Rows
def none {H : Type} : Left H := { results := [], args := [] }

/-- 'hornbooklaw01.HexIs': WHATEVER THE INPUT: true; the input reads as it did. -/
def hexIsSpec : ChangeSpec := { name := "hexIs", fn := fun _ => fun
  | [d1, d2, d3] => { results := [.lit (.bool true)], args := [d1, d2, d3] }
  | _ => none }
def hexIsRow : OpenClaim := { program := "ytgdcgbbilgcihaa", sum := "5a03d64bcc049828719cbc96fe2d9fce01a88ab26997831e44994c393126da7d", func := "hornbook/hornbooklaw01.HexIs", spec := "hexIs", inPlace := ["internal/bytealg.IndexByteString", "internal/abi.NoEscape"], apart := false }
def HexIsSaid : Prop := hexIsRow.holds Try.pinned (OpenSpec.ofChange hexIsSpec)

/-- ITS FALSE NEIGHBOUR: 'it returns false'. Refute it at one input. -/
def hexIsWrong : ChangeSpec := { name := "hexIs", fn := fun _ => fun
  | [d1, d2, d3] => { results := [.lit (.bool false)], args := [d1, d2, d3] }
  | _ => none }
def HexIsWrongFalsely : Prop := hexIsRow.holds Try.pinned (OpenSpec.ofChange hexIsWrong)

/-- 'hornbooklaw01.HexCodes': WHATEVER THE INPUT: true; the input reads as it did. -/
def hexCodesSpec : ChangeSpec := { name := "hexCodes", fn := fun _ => fun
  | [d1, d2] => { results := [.lit (.bool true)], args := [d1, d2] }
  | _ => none }
def hexCodesRow : OpenClaim := { program := "ytgdcgbbilgcihaa", sum := "5a03d64bcc049828719cbc96fe2d9fce01a88ab26997831e44994c393126da7d", func := "hornbook/hornbooklaw01.HexCodes", spec := "hexCodes", inPlace := ["internal/bytealg.IndexByteString", "internal/abi.NoEscape"], apart := false }
def HexCodesSaid : Prop := hexCodesRow.holds Try.pinned (OpenSpec.ofChange hexCodesSpec)

/-- ITS FALSE NEIGHBOUR: 'it returns false'. Refute it at one input. -/
def hexCodesWrong : ChangeSpec := { name := "hexCodes", fn := fun _ => fun
  | [d1, d2] => { results := [.lit (.bool false)], args := [d1, d2] }
  | _ => none }
def HexCodesWrongFalsely : Prop := hexCodesRow.holds Try.pinned (OpenSpec.ofChange hexCodesWrong)

/-- 'hornbooklaw01.HexBack': WHATEVER THE INPUT: true; the input reads as it did. -/
def hexBackSpec : ChangeSpec := { name := "hexBack", fn := fun _ => fun
  | [d1, d2, d3] => { results := [.lit (.bool true)], args := [d1, d2, d3] }
  | _ => none }
def hexBackRow : OpenClaim := { program := "ytgdcgbbilgcihaa", sum := "5a03d64bcc049828719cbc96fe2d9fce01a88ab26997831e44994c393126da7d", func := "hornbook/hornbooklaw01.HexBack", spec := "hexBack", inPlace := ["internal/bytealg.IndexByteString", "internal/abi.NoEscape"], apart := false }
def HexBackSaid : Prop := hexBackRow.holds Try.pinned (OpenSpec.ofChange hexBackSpec)

/-- ITS FALSE NEIGHBOUR: 'it returns false'. Refute it at one input. -/
def hexBackWrong : ChangeSpec := { name := "hexBack", fn := fun _ => fun
  | [d1, d2, d3] => { results := [.lit (.bool false)], args := [d1, d2, d3] }
  | _ => none }
def HexBackWrongFalsely : Prop := hexBackRow.holds Try.pinned (OpenSpec.ofChange hexBackWrong)

/-- 'hornbooklaw01.HexValues': WHATEVER THE INPUT: true; the input reads as it did. -/
def hexValuesSpec : ChangeSpec := { name := "hexValues", fn := fun _ => fun
  | [d1, d2] => { results := [.lit (.bool true)], args := [d1, d2] }
  | _ => none }
def hexValuesRow : OpenClaim := { program := "ytgdcgbbilgcihaa", sum := "5a03d64bcc049828719cbc96fe2d9fce01a88ab26997831e44994c393126da7d", func := "hornbook/hornbooklaw01.HexValues", spec := "hexValues", inPlace := ["internal/bytealg.IndexByteString", "internal/abi.NoEscape"], apart := false }
def HexValuesSaid : Prop := hexValuesRow.holds Try.pinned (OpenSpec.ofChange hexValuesSpec)

/-- ITS FALSE NEIGHBOUR: 'it returns false'. Refute it at one input. -/
def hexValuesWrong : ChangeSpec := { name := "hexValues", fn := fun _ => fun
  | [d1, d2] => { results := [.lit (.bool false)], args := [d1, d2] }
  | _ => none }
def HexValuesWrongFalsely : Prop := hexValuesRow.holds Try.pinned (OpenSpec.ofChange hexValuesWrong)

/-- 'hornbooklaw01.HexBad': WHATEVER THE INPUT: true; the input reads as it did. -/
def hexBadSpec : ChangeSpec := { name := "hexBad", fn := fun _ => fun
  | [d] => { results := [.lit (.bool true)], args := [d] }
  | _ => none }
def hexBadRow : OpenClaim := { program := "ytgdcgbbilgcihaa", sum := "5a03d64bcc049828719cbc96fe2d9fce01a88ab26997831e44994c393126da7d", func := "hornbook/hornbooklaw01.HexBad", spec := "hexBad", inPlace := ["internal/bytealg.IndexByteString", "internal/abi.NoEscape"], apart := false }
def HexBadSaid : Prop := hexBadRow.holds Try.pinned (OpenSpec.ofChange hexBadSpec)

/-- ITS FALSE NEIGHBOUR: 'it returns false'. Refute it at one input. -/
def hexBadWrong : ChangeSpec := { name := "hexBad", fn := fun _ => fun
  | [d] => { results := [.lit (.bool false)], args := [d] }
  | _ => none }
def HexBadWrongFalsely : Prop := hexBadRow.holds Try.pinned (OpenSpec.ofChange hexBadWrong)

/-- 'hornbooklaw01.HexRows': WHATEVER THE INPUT: true; the input reads as it did. -/
def hexRowsSpec : ChangeSpec := { name := "hexRows", fn := fun _ => fun
  | [d1, d2] => { results := [.lit (.bool true)], args := [d1, d2] }
  | _ => none }
def hexRowsRow : OpenClaim := { program := "ytgdcgbbilgcihaa", sum := "5a03d64bcc049828719cbc96fe2d9fce01a88ab26997831e44994c393126da7d", func := "hornbook/hornbooklaw01.HexRows", spec := "hexRows", inPlace := ["internal/bytealg.IndexByteString", "internal/abi.NoEscape"], apart := false }
def HexRowsSaid : Prop := hexRowsRow.holds Try.pinned (OpenSpec.ofChange hexRowsSpec)

/-- ITS FALSE NEIGHBOUR: 'it returns false'. Refute it at one input. -/
def hexRowsWrong : ChangeSpec := { name := "hexRows", fn := fun _ => fun
  | [d1, d2] => { results := [.lit (.bool false)], args := [d1, d2] }
  | _ => none }
def HexRowsWrongFalsely : Prop := hexRowsRow.holds Try.pinned (OpenSpec.ofChange hexRowsWrong)

/-- 'hornbooklaw01.HexTexts': WHATEVER THE INPUT: true; the input reads as it did. -/
def hexTextsSpec : ChangeSpec := { name := "hexTexts", fn := fun _ => fun
  | [d1, d2] => { results := [.lit (.bool true)], args := [d1, d2] }
  | _ => none }
def hexTextsRow : OpenClaim := { program := "ytgdcgbbilgcihaa", sum := "5a03d64bcc049828719cbc96fe2d9fce01a88ab26997831e44994c393126da7d", func := "hornbook/hornbooklaw01.HexTexts", spec := "hexTexts", inPlace := ["internal/bytealg.IndexByteString", "internal/abi.NoEscape"], apart := false }
def HexTextsSaid : Prop := hexTextsRow.holds Try.pinned (OpenSpec.ofChange hexTextsSpec)

/-- ITS FALSE NEIGHBOUR: 'it returns false'. Refute it at one input. -/
def hexTextsWrong : ChangeSpec := { name := "hexTexts", fn := fun _ => fun
  | [d1, d2] => { results := [.lit (.bool false)], args := [d1, d2] }
  | _ => none }
def HexTextsWrongFalsely : Prop := hexTextsRow.holds Try.pinned (OpenSpec.ofChange hexTextsWrong)

/- THE SECOND FORM. 'bulk': how many values and letters a reading holds, each counted each time it is reached (what is shared counts as often as it is met; a slice's spare places count too). A statement '..UptoSaid' is the law's where the arguments, and the package variables that the reading takes, are together of bulk at most 1048576: NARROWER than '..Said'. Prove '..Said' where nothing that the law and all that it calls make is longer than what came in: it says more and counts as full. Else prove '..UptoSaid'. A law counts once. -/
mutual
def uptoBulk {H : Type} : DataW H → Nat
  | .lit (.string bytes) => bytes.length + 1
  | .lit _ => 1
  | .nil => 1
  | .ptr d => uptoBulk d + 1
  | .slice elems spare => uptoBulkAll elems + uptoBulkAll spare + 1
  | .agg parts => uptoBulkAll parts + 1
  | .iface _ d => uptoBulk d + 1
  | .map entries => uptoBulkEntries entries + 1
  | .held _ => 1
def uptoBulkAll {H : Type} : List (DataW H) → Nat
  | [] => 0
  | d :: r => uptoBulk d + uptoBulkAll r
def uptoBulkEntries {H : Type} : List (Lit × DataW H) → Nat
  | [] => 0
  | x :: r => uptoBulkEntry x + uptoBulkEntries r
def uptoBulkEntry {H : Type} : Lit × DataW H → Nat
  | (.string bytes, d) => bytes.length + uptoBulk d + 1
  | (_, d) => uptoBulk d + 1
 end
def uptoSmall : (H : Type) → List (DataW H) → Bool := fun _ ds => decide (uptoBulkAll ds ≤ 1048576)
def OpenSpec.upto (s : _root_.Go.ChangeSpec) : _root_.Go.OpenSpec := { _root_.Go.OpenSpec.ofChange s with cond := some uptoSmall }

/-- 'hornbooklaw01.HexIs', WHERE WHAT IT READS IS OF BULK AT MOST 1048576: true; the input reads as it did. -/
def hexIsUptoRow : OpenClaim := { program := "ytgdcgbbilgcihaa", sum := "5a03d64bcc049828719cbc96fe2d9fce01a88ab26997831e44994c393126da7d", func := "hornbook/hornbooklaw01.HexIs", spec := "hexIs", inPlace := ["internal/bytealg.IndexByteString", "internal/abi.NoEscape"], apart := false, narrowed := true }
def HexIsUptoSaid : Prop := hexIsUptoRow.holds Try.pinned (OpenSpec.upto hexIsSpec)

/-- 'hornbooklaw01.HexCodes', WHERE WHAT IT READS IS OF BULK AT MOST 1048576: true; the input reads as it did. -/
def hexCodesUptoRow : OpenClaim := { program := "ytgdcgbbilgcihaa", sum := "5a03d64bcc049828719cbc96fe2d9fce01a88ab26997831e44994c393126da7d", func := "hornbook/hornbooklaw01.HexCodes", spec := "hexCodes", inPlace := ["internal/bytealg.IndexByteString", "internal/abi.NoEscape"], apart := false, narrowed := true }
def HexCodesUptoSaid : Prop := hexCodesUptoRow.holds Try.pinned (OpenSpec.upto hexCodesSpec)

/-- 'hornbooklaw01.HexBack', WHERE WHAT IT READS IS OF BULK AT MOST 1048576: true; the input reads as it did. -/
def hexBackUptoRow : OpenClaim := { program := "ytgdcgbbilgcihaa", sum := "5a03d64bcc049828719cbc96fe2d9fce01a88ab26997831e44994c393126da7d", func := "hornbook/hornbooklaw01.HexBack", spec := "hexBack", inPlace := ["internal/bytealg.IndexByteString", "internal/abi.NoEscape"], apart := false, narrowed := true }
def HexBackUptoSaid : Prop := hexBackUptoRow.holds Try.pinned (OpenSpec.upto hexBackSpec)

/-- 'hornbooklaw01.HexValues', WHERE WHAT IT READS IS OF BULK AT MOST 1048576: true; the input reads as it did. -/
def hexValuesUptoRow : OpenClaim := { program := "ytgdcgbbilgcihaa", sum := "5a03d64bcc049828719cbc96fe2d9fce01a88ab26997831e44994c393126da7d", func := "hornbook/hornbooklaw01.HexValues", spec := "hexValues", inPlace := ["internal/bytealg.IndexByteString", "internal/abi.NoEscape"], apart := false, narrowed := true }
def HexValuesUptoSaid : Prop := hexValuesUptoRow.holds Try.pinned (OpenSpec.upto hexValuesSpec)

/-- 'hornbooklaw01.HexBad', WHERE WHAT IT READS IS OF BULK AT MOST 1048576: true; the input reads as it did. -/
def hexBadUptoRow : OpenClaim := { program := "ytgdcgbbilgcihaa", sum := "5a03d64bcc049828719cbc96fe2d9fce01a88ab26997831e44994c393126da7d", func := "hornbook/hornbooklaw01.HexBad", spec := "hexBad", inPlace := ["internal/bytealg.IndexByteString", "internal/abi.NoEscape"], apart := false, narrowed := true }
def HexBadUptoSaid : Prop := hexBadUptoRow.holds Try.pinned (OpenSpec.upto hexBadSpec)

/-- 'hornbooklaw01.HexRows', WHERE WHAT IT READS IS OF BULK AT MOST 1048576: true; the input reads as it did. -/
def hexRowsUptoRow : OpenClaim := { program := "ytgdcgbbilgcihaa", sum := "5a03d64bcc049828719cbc96fe2d9fce01a88ab26997831e44994c393126da7d", func := "hornbook/hornbooklaw01.HexRows", spec := "hexRows", inPlace := ["internal/bytealg.IndexByteString", "internal/abi.NoEscape"], apart := false, narrowed := true }
def HexRowsUptoSaid : Prop := hexRowsUptoRow.holds Try.pinned (OpenSpec.upto hexRowsSpec)

/-- 'hornbooklaw01.HexTexts', WHERE WHAT IT READS IS OF BULK AT MOST 1048576: true; the input reads as it did. -/
def hexTextsUptoRow : OpenClaim := { program := "ytgdcgbbilgcihaa", sum := "5a03d64bcc049828719cbc96fe2d9fce01a88ab26997831e44994c393126da7d", func := "hornbook/hornbooklaw01.HexTexts", spec := "hexTexts", inPlace := ["internal/bytealg.IndexByteString", "internal/abi.NoEscape"], apart := false, narrowed := true }
def HexTextsUptoSaid : Prop := hexTextsUptoRow.holds Try.pinned (OpenSpec.upto hexTextsSpec)

end Rows
end Go.Proofs.Ytgdcgbbilgcihaa
