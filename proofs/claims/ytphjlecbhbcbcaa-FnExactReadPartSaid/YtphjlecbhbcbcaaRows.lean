/-
  No cell of these rows narrows 'for every input' (looked for: loops, veiled, ifaces, maps, wideKeys, modest, calm, conditions, laid).
  DERIVED. THE GIVEN ROWS OF THIS SEAT. 11 by the template 'for every input the law returns true; each argument reads behind the call as it read before'; 0 by the template 'total and deterministic' (their statements: YtphjlecbhbcbcaaTotals.lean).
  GIVEN WITH THE SEED: the statements are not yours to turn. If you find one false, say at which input.
  Laid BY PROGRAM, IN A SANDBOX (cutbox-rows.mjs): the forced cells as the released guide's own fill.sh prints them over the translation 180d25aa3e5837a5… (all of the seat's roots in one cut). By AI agents, Wed Nov 11 2026. No macro, syntax, notation, axiom, sorry.
-/
import Derived.Test.YtphjlecbhbcbcaaChecked
import GoSem.Claim
import GoSem.ClaimJoined
import GoSem.ClaimMapViews
import Derived.JoinedTies
import Derived.KernelRfl
namespace Go.Proofs.Ytphjlecbhbcbcaa
/- THE CELL 'sum', in the pinned program and in every row, IS THE sha256 OF THE DUMP (.gsa) THAT YtphjlecbhbcbcaaProg.lean LOADS. Nothing in Lean hashes anything: it is a label: what it is worth is what the hold of that sum in a sandbox is worth. -/
noncomputable def Try.pinned : Pinned := { name := "ytphjlecbhbcbcaa", sum := "180d25aa3e5837a5238211906003ca6e6fcd0440a320916b8b61ed7d660acad1", checked := Try.checked }
namespace Rows
def none {H : Type} : Left H := { results := [], args := [] }

/-- 'laws.FnExactParcelsOf': WHATEVER THE INPUT: true; the input reads as it did. -/
def fnExactParcelsOfSpec : ChangeSpec := { name := "fnExactParcelsOf", fn := fun _ => fun
  | [d1, d2] => { results := [.lit (.bool true)], args := [d1, d2] }
  | _ => none }
def fnExactParcelsOfRow : OpenClaim := { program := "ytphjlecbhbcbcaa", sum := "180d25aa3e5837a5238211906003ca6e6fcd0440a320916b8b61ed7d660acad1", func := "loop.example/g00250/laws.FnExactParcelsOf", spec := "fnExactParcelsOf", apart := false }
def FnExactParcelsOfSaid : Prop := fnExactParcelsOfRow.holds Try.pinned (OpenSpec.ofChange fnExactParcelsOfSpec)

/-- ITS FALSE NEIGHBOUR: 'it returns false'. Refute it at one input. -/
def fnExactParcelsOfWrong : ChangeSpec := { name := "fnExactParcelsOf", fn := fun _ => fun
  | [d1, d2] => { results := [.lit (.bool false)], args := [d1, d2] }
  | _ => none }
def FnExactParcelsOfWrongFalsely : Prop := fnExactParcelsOfRow.holds Try.pinned (OpenSpec.ofChange fnExactParcelsOfWrong)

/-- 'laws.FnExactLetterOk': WHATEVER THE INPUT: true; the input reads as it did. -/
def fnExactLetterOkSpec : ChangeSpec := { name := "fnExactLetterOk", fn := fun _ => fun
  | [d] => { results := [.lit (.bool true)], args := [d] }
  | _ => none }
def fnExactLetterOkRow : OpenClaim := { program := "ytphjlecbhbcbcaa", sum := "180d25aa3e5837a5238211906003ca6e6fcd0440a320916b8b61ed7d660acad1", func := "loop.example/g00250/laws.FnExactLetterOk", spec := "fnExactLetterOk", apart := false }
def FnExactLetterOkSaid : Prop := fnExactLetterOkRow.holds Try.pinned (OpenSpec.ofChange fnExactLetterOkSpec)

/-- ITS FALSE NEIGHBOUR: 'it returns false'. Refute it at one input. -/
def fnExactLetterOkWrong : ChangeSpec := { name := "fnExactLetterOk", fn := fun _ => fun
  | [d] => { results := [.lit (.bool false)], args := [d] }
  | _ => none }
def FnExactLetterOkWrongFalsely : Prop := fnExactLetterOkRow.holds Try.pinned (OpenSpec.ofChange fnExactLetterOkWrong)

/-- 'laws.FnExactPartActs': WHATEVER THE INPUT: true; the input reads as it did. -/
def fnExactPartActsSpec : ChangeSpec := { name := "fnExactPartActs", fn := fun _ => fun
  | [d] => { results := [.lit (.bool true)], args := [d] }
  | _ => none }
def fnExactPartActsRow : OpenClaim := { program := "ytphjlecbhbcbcaa", sum := "180d25aa3e5837a5238211906003ca6e6fcd0440a320916b8b61ed7d660acad1", func := "loop.example/g00250/laws.FnExactPartActs", spec := "fnExactPartActs", inPlace := ["internal/abi.NoEscape"], apart := false }
def FnExactPartActsSaid : Prop := fnExactPartActsRow.holds Try.pinned (OpenSpec.ofChange fnExactPartActsSpec)

/-- ITS FALSE NEIGHBOUR: 'it returns false'. Refute it at one input. -/
def fnExactPartActsWrong : ChangeSpec := { name := "fnExactPartActs", fn := fun _ => fun
  | [d] => { results := [.lit (.bool false)], args := [d] }
  | _ => none }
def FnExactPartActsWrongFalsely : Prop := fnExactPartActsRow.holds Try.pinned (OpenSpec.ofChange fnExactPartActsWrong)

/-- 'laws.FnExactLetterText': WHATEVER THE INPUT: true; the input reads as it did. -/
def fnExactLetterTextSpec : ChangeSpec := { name := "fnExactLetterText", fn := fun _ => fun
  | [d] => { results := [.lit (.bool true)], args := [d] }
  | _ => none }
def fnExactLetterTextRow : OpenClaim := { program := "ytphjlecbhbcbcaa", sum := "180d25aa3e5837a5238211906003ca6e6fcd0440a320916b8b61ed7d660acad1", func := "loop.example/g00250/laws.FnExactLetterText", spec := "fnExactLetterText", inPlace := ["internal/abi.NoEscape"], apart := false }
def FnExactLetterTextSaid : Prop := fnExactLetterTextRow.holds Try.pinned (OpenSpec.ofChange fnExactLetterTextSpec)

/-- ITS FALSE NEIGHBOUR: 'it returns false'. Refute it at one input. -/
def fnExactLetterTextWrong : ChangeSpec := { name := "fnExactLetterText", fn := fun _ => fun
  | [d] => { results := [.lit (.bool false)], args := [d] }
  | _ => none }
def FnExactLetterTextWrongFalsely : Prop := fnExactLetterTextRow.holds Try.pinned (OpenSpec.ofChange fnExactLetterTextWrong)

/-- 'laws.FnExactReadLetter': WHATEVER THE INPUT: true; the input reads as it did. -/
def fnExactReadLetterSpec : ChangeSpec := { name := "fnExactReadLetter", fn := fun _ => fun
  | [d] => { results := [.lit (.bool true)], args := [d] }
  | _ => none }
def fnExactReadLetterRow : OpenClaim := { program := "ytphjlecbhbcbcaa", sum := "180d25aa3e5837a5238211906003ca6e6fcd0440a320916b8b61ed7d660acad1", func := "loop.example/g00250/laws.FnExactReadLetter", spec := "fnExactReadLetter", inPlace := ["internal/abi.NoEscape"], apart := false }
def FnExactReadLetterSaid : Prop := fnExactReadLetterRow.holds Try.pinned (OpenSpec.ofChange fnExactReadLetterSpec)

/-- ITS FALSE NEIGHBOUR: 'it returns false'. Refute it at one input. -/
def fnExactReadLetterWrong : ChangeSpec := { name := "fnExactReadLetter", fn := fun _ => fun
  | [d] => { results := [.lit (.bool false)], args := [d] }
  | _ => none }
def FnExactReadLetterWrongFalsely : Prop := fnExactReadLetterRow.holds Try.pinned (OpenSpec.ofChange fnExactReadLetterWrong)

/-- 'laws.FnExactReadPart': WHATEVER THE INPUT: true; the input reads as it did. -/
def fnExactReadPartSpec : ChangeSpec := { name := "fnExactReadPart", fn := fun _ => fun
  | [d] => { results := [.lit (.bool true)], args := [d] }
  | _ => none }
def fnExactReadPartRow : OpenClaim := { program := "ytphjlecbhbcbcaa", sum := "180d25aa3e5837a5238211906003ca6e6fcd0440a320916b8b61ed7d660acad1", func := "loop.example/g00250/laws.FnExactReadPart", spec := "fnExactReadPart", unfollowed := true, recurses := true, apart := false }
def FnExactReadPartSaid : Prop := fnExactReadPartRow.holds Try.pinned (OpenSpec.ofChange fnExactReadPartSpec)

/-- ITS FALSE NEIGHBOUR: 'it returns false'. Refute it at one input. -/
def fnExactReadPartWrong : ChangeSpec := { name := "fnExactReadPart", fn := fun _ => fun
  | [d] => { results := [.lit (.bool false)], args := [d] }
  | _ => none }
def FnExactReadPartWrongFalsely : Prop := fnExactReadPartRow.holds Try.pinned (OpenSpec.ofChange fnExactReadPartWrong)

/-- 'laws.FnEpochsKept': WHATEVER THE INPUT: true; the input reads as it did. -/
def fnEpochsKeptSpec : ChangeSpec := { name := "fnEpochsKept", fn := fun _ => fun
  | [d] => { results := [.lit (.bool true)], args := [d] }
  | _ => none }
def fnEpochsKeptRow : OpenClaim := { program := "ytphjlecbhbcbcaa", sum := "180d25aa3e5837a5238211906003ca6e6fcd0440a320916b8b61ed7d660acad1", func := "loop.example/g00250/laws.FnEpochsKept", spec := "fnEpochsKept", inPlace := ["slices.overlaps[loop.example/g00250/impl.File]"], unfollowed := true, recurses := true, apart := false }
def FnEpochsKeptSaid : Prop := fnEpochsKeptRow.holds Try.pinned (OpenSpec.ofChange fnEpochsKeptSpec)

/-- ITS FALSE NEIGHBOUR: 'it returns false'. Refute it at one input. -/
def fnEpochsKeptWrong : ChangeSpec := { name := "fnEpochsKept", fn := fun _ => fun
  | [d] => { results := [.lit (.bool false)], args := [d] }
  | _ => none }
def FnEpochsKeptWrongFalsely : Prop := fnEpochsKeptRow.holds Try.pinned (OpenSpec.ofChange fnEpochsKeptWrong)

/-- 'laws.FnExactFreshDisk': WHATEVER THE INPUT: true; the input reads as it did. -/
def fnExactFreshDiskSpec : ChangeSpec := { name := "fnExactFreshDisk", fn := fun _ => fun
  | [d] => { results := [.lit (.bool true)], args := [d] }
  | _ => none }
def fnExactFreshDiskRow : OpenClaim := { program := "ytphjlecbhbcbcaa", sum := "180d25aa3e5837a5238211906003ca6e6fcd0440a320916b8b61ed7d660acad1", func := "loop.example/g00250/laws.FnExactFreshDisk", spec := "fnExactFreshDisk", inPlace := ["internal/abi.NoEscape", "slices.overlaps[loop.example/g00250/impl.File]"], unfollowed := true, recurses := true, apart := false }
def FnExactFreshDiskSaid : Prop := fnExactFreshDiskRow.holds Try.pinned (OpenSpec.ofChange fnExactFreshDiskSpec)

/-- ITS FALSE NEIGHBOUR: 'it returns false'. Refute it at one input. -/
def fnExactFreshDiskWrong : ChangeSpec := { name := "fnExactFreshDisk", fn := fun _ => fun
  | [d] => { results := [.lit (.bool false)], args := [d] }
  | _ => none }
def FnExactFreshDiskWrongFalsely : Prop := fnExactFreshDiskRow.holds Try.pinned (OpenSpec.ofChange fnExactFreshDiskWrong)

/-- 'laws.FnPartDisksTold': WHATEVER THE INPUT: true; the input reads as it did. -/
def fnPartDisksToldSpec : ChangeSpec := { name := "fnPartDisksTold", fn := fun _ => fun
  | [d] => { results := [.lit (.bool true)], args := [d] }
  | _ => none }
def fnPartDisksToldRow : OpenClaim := { program := "ytphjlecbhbcbcaa", sum := "180d25aa3e5837a5238211906003ca6e6fcd0440a320916b8b61ed7d660acad1", func := "loop.example/g00250/laws.FnPartDisksTold", spec := "fnPartDisksTold", inPlace := ["internal/abi.NoEscape"], unfollowed := true, recurses := true, apart := false }
def FnPartDisksToldSaid : Prop := fnPartDisksToldRow.holds Try.pinned (OpenSpec.ofChange fnPartDisksToldSpec)

/-- ITS FALSE NEIGHBOUR: 'it returns false'. Refute it at one input. -/
def fnPartDisksToldWrong : ChangeSpec := { name := "fnPartDisksTold", fn := fun _ => fun
  | [d] => { results := [.lit (.bool false)], args := [d] }
  | _ => none }
def FnPartDisksToldWrongFalsely : Prop := fnPartDisksToldRow.holds Try.pinned (OpenSpec.ofChange fnPartDisksToldWrong)

/-- 'laws.FnPartsKept': WHATEVER THE INPUT: true; the input reads as it did. -/
def fnPartsKeptSpec : ChangeSpec := { name := "fnPartsKept", fn := fun _ => fun
  | [d] => { results := [.lit (.bool true)], args := [d] }
  | _ => none }
def fnPartsKeptRow : OpenClaim := { program := "ytphjlecbhbcbcaa", sum := "180d25aa3e5837a5238211906003ca6e6fcd0440a320916b8b61ed7d660acad1", func := "loop.example/g00250/laws.FnPartsKept", spec := "fnPartsKept", inPlace := ["internal/abi.NoEscape", "slices.overlaps[loop.example/g00250/impl.File]"], unfollowed := true, recurses := true, apart := false }
def FnPartsKeptSaid : Prop := fnPartsKeptRow.holds Try.pinned (OpenSpec.ofChange fnPartsKeptSpec)

/-- ITS FALSE NEIGHBOUR: 'it returns false'. Refute it at one input. -/
def fnPartsKeptWrong : ChangeSpec := { name := "fnPartsKept", fn := fun _ => fun
  | [d] => { results := [.lit (.bool false)], args := [d] }
  | _ => none }
def FnPartsKeptWrongFalsely : Prop := fnPartsKeptRow.holds Try.pinned (OpenSpec.ofChange fnPartsKeptWrong)

/-- 'laws.FnLetters': WHATEVER THE INPUT: true; the input reads as it did. -/
def fnLettersSpec : ChangeSpec := { name := "fnLetters", fn := fun _ => fun
  | [d] => { results := [.lit (.bool true)], args := [d] }
  | _ => none }
def fnLettersRow : OpenClaim := { program := "ytphjlecbhbcbcaa", sum := "180d25aa3e5837a5238211906003ca6e6fcd0440a320916b8b61ed7d660acad1", func := "loop.example/g00250/laws.FnLetters", spec := "fnLetters", inPlace := ["internal/abi.NoEscape"], recurses := true, apart := false }
def FnLettersSaid : Prop := fnLettersRow.holds Try.pinned (OpenSpec.ofChange fnLettersSpec)

/-- ITS FALSE NEIGHBOUR: 'it returns false'. Refute it at one input. -/
def fnLettersWrong : ChangeSpec := { name := "fnLetters", fn := fun _ => fun
  | [d] => { results := [.lit (.bool false)], args := [d] }
  | _ => none }
def FnLettersWrongFalsely : Prop := fnLettersRow.holds Try.pinned (OpenSpec.ofChange fnLettersWrong)

/- THE SECOND FORM. 'bulk': how many values and letters a reading holds, each counted each time it is reached (what is shared counts as often as it is met; a slice's spare places count too). A statement '..UptoSaid' is the law's where the arguments, and the package variables that the reading takes, are together of bulk at most 1048576: NARROWER than '..Said'. Prove '..Said' where nothing that the law and all that it calls make is longer than what came in: it says more and counts as full. Else prove '..UptoSaid'. A law counts once. -/
mutual
def uptoBulk {H : Type} : DataW H → Nat
  | .lit (.string bytes) => bytes.length + 1
  | .lit _ => 1
  | .nil => 1
  | .ptr d => uptoBulk d + 1
  | .slice elems spare => uptoBulkAll elems + uptoBulkAll spare + 1
  | .agg parts => uptoBulkAll parts + 1
  | .iface _ d => uptoBulk d + 1
  | .map entries => uptoBulkEntries entries + 1
  | .held _ => 1
def uptoBulkAll {H : Type} : List (DataW H) → Nat
  | [] => 0
  | d :: r => uptoBulk d + uptoBulkAll r
def uptoBulkEntries {H : Type} : List (Lit × DataW H) → Nat
  | [] => 0
  | x :: r => uptoBulkEntry x + uptoBulkEntries r
def uptoBulkEntry {H : Type} : Lit × DataW H → Nat
  | (.string bytes, d) => bytes.length + uptoBulk d + 1
  | (_, d) => uptoBulk d + 1
 end
def uptoSmall : (H : Type) → List (DataW H) → Bool := fun _ ds => decide (uptoBulkAll ds ≤ 1048576)
def OpenSpec.upto (s : _root_.Go.ChangeSpec) : _root_.Go.OpenSpec := { _root_.Go.OpenSpec.ofChange s with cond := some uptoSmall }

/-- 'laws.FnExactParcelsOf', WHERE WHAT IT READS IS OF BULK AT MOST 1048576: true; the input reads as it did. -/
def fnExactParcelsOfUptoRow : OpenClaim := { program := "ytphjlecbhbcbcaa", sum := "180d25aa3e5837a5238211906003ca6e6fcd0440a320916b8b61ed7d660acad1", func := "loop.example/g00250/laws.FnExactParcelsOf", spec := "fnExactParcelsOf", apart := false, narrowed := true }
def FnExactParcelsOfUptoSaid : Prop := fnExactParcelsOfUptoRow.holds Try.pinned (OpenSpec.upto fnExactParcelsOfSpec)

/-- 'laws.FnExactLetterOk', WHERE WHAT IT READS IS OF BULK AT MOST 1048576: true; the input reads as it did. -/
def fnExactLetterOkUptoRow : OpenClaim := { program := "ytphjlecbhbcbcaa", sum := "180d25aa3e5837a5238211906003ca6e6fcd0440a320916b8b61ed7d660acad1", func := "loop.example/g00250/laws.FnExactLetterOk", spec := "fnExactLetterOk", apart := false, narrowed := true }
def FnExactLetterOkUptoSaid : Prop := fnExactLetterOkUptoRow.holds Try.pinned (OpenSpec.upto fnExactLetterOkSpec)

/-- 'laws.FnExactPartActs', WHERE WHAT IT READS IS OF BULK AT MOST 1048576: true; the input reads as it did. -/
def fnExactPartActsUptoRow : OpenClaim := { program := "ytphjlecbhbcbcaa", sum := "180d25aa3e5837a5238211906003ca6e6fcd0440a320916b8b61ed7d660acad1", func := "loop.example/g00250/laws.FnExactPartActs", spec := "fnExactPartActs", inPlace := ["internal/abi.NoEscape"], apart := false, narrowed := true }
def FnExactPartActsUptoSaid : Prop := fnExactPartActsUptoRow.holds Try.pinned (OpenSpec.upto fnExactPartActsSpec)

/-- 'laws.FnExactLetterText', WHERE WHAT IT READS IS OF BULK AT MOST 1048576: true; the input reads as it did. -/
def fnExactLetterTextUptoRow : OpenClaim := { program := "ytphjlecbhbcbcaa", sum := "180d25aa3e5837a5238211906003ca6e6fcd0440a320916b8b61ed7d660acad1", func := "loop.example/g00250/laws.FnExactLetterText", spec := "fnExactLetterText", inPlace := ["internal/abi.NoEscape"], apart := false, narrowed := true }
def FnExactLetterTextUptoSaid : Prop := fnExactLetterTextUptoRow.holds Try.pinned (OpenSpec.upto fnExactLetterTextSpec)

/-- 'laws.FnExactReadLetter', WHERE WHAT IT READS IS OF BULK AT MOST 1048576: true; the input reads as it did. -/
def fnExactReadLetterUptoRow : OpenClaim := { program := "ytphjlecbhbcbcaa", sum := "180d25aa3e5837a5238211906003ca6e6fcd0440a320916b8b61ed7d660acad1", func := "loop.example/g00250/laws.FnExactReadLetter", spec := "fnExactReadLetter", inPlace := ["internal/abi.NoEscape"], apart := false, narrowed := true }
def FnExactReadLetterUptoSaid : Prop := fnExactReadLetterUptoRow.holds Try.pinned (OpenSpec.upto fnExactReadLetterSpec)

/-- 'laws.FnExactReadPart', WHERE WHAT IT READS IS OF BULK AT MOST 1048576: true; the input reads as it did. -/
def fnExactReadPartUptoRow : OpenClaim := { program := "ytphjlecbhbcbcaa", sum := "180d25aa3e5837a5238211906003ca6e6fcd0440a320916b8b61ed7d660acad1", func := "loop.example/g00250/laws.FnExactReadPart", spec := "fnExactReadPart", unfollowed := true, recurses := true, apart := false, narrowed := true }
def FnExactReadPartUptoSaid : Prop := fnExactReadPartUptoRow.holds Try.pinned (OpenSpec.upto fnExactReadPartSpec)

/-- 'laws.FnEpochsKept', WHERE WHAT IT READS IS OF BULK AT MOST 1048576: true; the input reads as it did. -/
def fnEpochsKeptUptoRow : OpenClaim := { program := "ytphjlecbhbcbcaa", sum := "180d25aa3e5837a5238211906003ca6e6fcd0440a320916b8b61ed7d660acad1", func := "loop.example/g00250/laws.FnEpochsKept", spec := "fnEpochsKept", inPlace := ["slices.overlaps[loop.example/g00250/impl.File]"], unfollowed := true, recurses := true, apart := false, narrowed := true }
def FnEpochsKeptUptoSaid : Prop := fnEpochsKeptUptoRow.holds Try.pinned (OpenSpec.upto fnEpochsKeptSpec)

/-- 'laws.FnExactFreshDisk', WHERE WHAT IT READS IS OF BULK AT MOST 1048576: true; the input reads as it did. -/
def fnExactFreshDiskUptoRow : OpenClaim := { program := "ytphjlecbhbcbcaa", sum := "180d25aa3e5837a5238211906003ca6e6fcd0440a320916b8b61ed7d660acad1", func := "loop.example/g00250/laws.FnExactFreshDisk", spec := "fnExactFreshDisk", inPlace := ["internal/abi.NoEscape", "slices.overlaps[loop.example/g00250/impl.File]"], unfollowed := true, recurses := true, apart := false, narrowed := true }
def FnExactFreshDiskUptoSaid : Prop := fnExactFreshDiskUptoRow.holds Try.pinned (OpenSpec.upto fnExactFreshDiskSpec)

/-- 'laws.FnPartDisksTold', WHERE WHAT IT READS IS OF BULK AT MOST 1048576: true; the input reads as it did. -/
def fnPartDisksToldUptoRow : OpenClaim := { program := "ytphjlecbhbcbcaa", sum := "180d25aa3e5837a5238211906003ca6e6fcd0440a320916b8b61ed7d660acad1", func := "loop.example/g00250/laws.FnPartDisksTold", spec := "fnPartDisksTold", inPlace := ["internal/abi.NoEscape"], unfollowed := true, recurses := true, apart := false, narrowed := true }
def FnPartDisksToldUptoSaid : Prop := fnPartDisksToldUptoRow.holds Try.pinned (OpenSpec.upto fnPartDisksToldSpec)

/-- 'laws.FnPartsKept', WHERE WHAT IT READS IS OF BULK AT MOST 1048576: true; the input reads as it did. -/
def fnPartsKeptUptoRow : OpenClaim := { program := "ytphjlecbhbcbcaa", sum := "180d25aa3e5837a5238211906003ca6e6fcd0440a320916b8b61ed7d660acad1", func := "loop.example/g00250/laws.FnPartsKept", spec := "fnPartsKept", inPlace := ["internal/abi.NoEscape", "slices.overlaps[loop.example/g00250/impl.File]"], unfollowed := true, recurses := true, apart := false, narrowed := true }
def FnPartsKeptUptoSaid : Prop := fnPartsKeptUptoRow.holds Try.pinned (OpenSpec.upto fnPartsKeptSpec)

/-- 'laws.FnLetters', WHERE WHAT IT READS IS OF BULK AT MOST 1048576: true; the input reads as it did. -/
def fnLettersUptoRow : OpenClaim := { program := "ytphjlecbhbcbcaa", sum := "180d25aa3e5837a5238211906003ca6e6fcd0440a320916b8b61ed7d660acad1", func := "loop.example/g00250/laws.FnLetters", spec := "fnLetters", inPlace := ["internal/abi.NoEscape"], recurses := true, apart := false, narrowed := true }
def FnLettersUptoSaid : Prop := fnLettersUptoRow.holds Try.pinned (OpenSpec.upto fnLettersSpec)

end Rows
end Go.Proofs.Ytphjlecbhbcbcaa
