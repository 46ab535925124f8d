/-
  No cell of these rows narrows 'for every input' (looked for: loops, veiled, ifaces, maps, wideKeys, modest, calm, conditions, laid).
  DERIVED. THE GIVEN ROWS OF THIS SEAT. 8 by the template 'for every input the law returns true; each argument reads behind the call as it read before'; 0 by the template 'total and deterministic' (their statements: YtjgghiniajmfjaaTotals.lean).
  GIVEN WITH THE SEED: the statements are not yours to turn. If you find one false, say at which input.
  Laid BY PROGRAM, IN A SANDBOX (cutbox-rows.mjs): the forced cells as the released guide's own fill.sh prints them over the translation 641b0aa108436216… (all of the seat's roots in one cut). By AI agents, Wed Nov 11 2026. No macro, syntax, notation, axiom, sorry.
-/
import Derived.Test.YtjgghiniajmfjaaChecked
import GoSem.Claim
import GoSem.ClaimJoined
import GoSem.ClaimMapViews
import Derived.JoinedTies
import Derived.KernelRfl
namespace Go.Proofs.Ytjgghiniajmfjaa
/- THE CELL 'sum', in the pinned program and in every row, IS THE sha256 OF THE DUMP (.gsa) THAT YtjgghiniajmfjaaProg.lean LOADS. Nothing in Lean hashes anything: it is a label: what it is worth is what the hold of that sum in a sandbox is worth. -/
noncomputable def Try.pinned : Pinned := { name := "ytjgghiniajmfjaa", sum := "641b0aa108436216a779e13c50a0ee6ca2742b0d8e85e2ebb314b1cd8938013b", checked := Try.checked }
namespace Rows
def none {H : Type} : Left H := { results := [], args := [] }

/-- 'laws.FnPathsTold': WHATEVER THE INPUT: true; the input reads as it did. -/
def fnPathsToldSpec : ChangeSpec := { name := "fnPathsTold", fn := fun _ => fun
  | [d] => { results := [.lit (.bool true)], args := [d] }
  | _ => none }
def fnPathsToldRow : OpenClaim := { program := "ytjgghiniajmfjaa", sum := "641b0aa108436216a779e13c50a0ee6ca2742b0d8e85e2ebb314b1cd8938013b", func := "loop.example/g00250/laws.FnPathsTold", spec := "fnPathsTold", unfollowed := true, recurses := true, apart := false }
def FnPathsToldSaid : Prop := fnPathsToldRow.holds Try.pinned (OpenSpec.ofChange fnPathsToldSpec)

/-- ITS FALSE NEIGHBOUR: 'it returns false'. Refute it at one input. -/
def fnPathsToldWrong : ChangeSpec := { name := "fnPathsTold", fn := fun _ => fun
  | [d] => { results := [.lit (.bool false)], args := [d] }
  | _ => none }
def FnPathsToldWrongFalsely : Prop := fnPathsToldRow.holds Try.pinned (OpenSpec.ofChange fnPathsToldWrong)

/-- 'laws.FnEpochsKept': WHATEVER THE INPUT: true; the input reads as it did. -/
def fnEpochsKeptSpec : ChangeSpec := { name := "fnEpochsKept", fn := fun _ => fun
  | [d] => { results := [.lit (.bool true)], args := [d] }
  | _ => none }
def fnEpochsKeptRow : OpenClaim := { program := "ytjgghiniajmfjaa", sum := "641b0aa108436216a779e13c50a0ee6ca2742b0d8e85e2ebb314b1cd8938013b", func := "loop.example/g00250/laws.FnEpochsKept", spec := "fnEpochsKept", inPlace := ["slices.overlaps[loop.example/g00250/impl.File]"], unfollowed := true, recurses := true, apart := false }
def FnEpochsKeptSaid : Prop := fnEpochsKeptRow.holds Try.pinned (OpenSpec.ofChange fnEpochsKeptSpec)

/-- ITS FALSE NEIGHBOUR: 'it returns false'. Refute it at one input. -/
def fnEpochsKeptWrong : ChangeSpec := { name := "fnEpochsKept", fn := fun _ => fun
  | [d] => { results := [.lit (.bool false)], args := [d] }
  | _ => none }
def FnEpochsKeptWrongFalsely : Prop := fnEpochsKeptRow.holds Try.pinned (OpenSpec.ofChange fnEpochsKeptWrong)

/-- 'laws.FnExactFreshDisk': WHATEVER THE INPUT: true; the input reads as it did. -/
def fnExactFreshDiskSpec : ChangeSpec := { name := "fnExactFreshDisk", fn := fun _ => fun
  | [d] => { results := [.lit (.bool true)], args := [d] }
  | _ => none }
def fnExactFreshDiskRow : OpenClaim := { program := "ytjgghiniajmfjaa", sum := "641b0aa108436216a779e13c50a0ee6ca2742b0d8e85e2ebb314b1cd8938013b", func := "loop.example/g00250/laws.FnExactFreshDisk", spec := "fnExactFreshDisk", inPlace := ["internal/abi.NoEscape", "slices.overlaps[loop.example/g00250/impl.File]"], unfollowed := true, recurses := true, apart := false }
def FnExactFreshDiskSaid : Prop := fnExactFreshDiskRow.holds Try.pinned (OpenSpec.ofChange fnExactFreshDiskSpec)

/-- ITS FALSE NEIGHBOUR: 'it returns false'. Refute it at one input. -/
def fnExactFreshDiskWrong : ChangeSpec := { name := "fnExactFreshDisk", fn := fun _ => fun
  | [d] => { results := [.lit (.bool false)], args := [d] }
  | _ => none }
def FnExactFreshDiskWrongFalsely : Prop := fnExactFreshDiskRow.holds Try.pinned (OpenSpec.ofChange fnExactFreshDiskWrong)

/-- 'laws.FnPathShown': WHATEVER THE INPUT: true; the input reads as it did. -/
def fnPathShownSpec : ChangeSpec := { name := "fnPathShown", fn := fun _ => fun
  | [d] => { results := [.lit (.bool true)], args := [d] }
  | _ => none }
def fnPathShownRow : OpenClaim := { program := "ytjgghiniajmfjaa", sum := "641b0aa108436216a779e13c50a0ee6ca2742b0d8e85e2ebb314b1cd8938013b", func := "loop.example/g00250/laws.FnPathShown", spec := "fnPathShown", inPlace := ["internal/abi.NoEscape", "internal/bytealg.MakeNoZero"], recurses := true, apart := false }
def FnPathShownSaid : Prop := fnPathShownRow.holds Try.pinned (OpenSpec.ofChange fnPathShownSpec)

/-- ITS FALSE NEIGHBOUR: 'it returns false'. Refute it at one input. -/
def fnPathShownWrong : ChangeSpec := { name := "fnPathShown", fn := fun _ => fun
  | [d] => { results := [.lit (.bool false)], args := [d] }
  | _ => none }
def FnPathShownWrongFalsely : Prop := fnPathShownRow.holds Try.pinned (OpenSpec.ofChange fnPathShownWrong)

/-- 'laws.FnPartDisksTold': WHATEVER THE INPUT: true; the input reads as it did. -/
def fnPartDisksToldSpec : ChangeSpec := { name := "fnPartDisksTold", fn := fun _ => fun
  | [d] => { results := [.lit (.bool true)], args := [d] }
  | _ => none }
def fnPartDisksToldRow : OpenClaim := { program := "ytjgghiniajmfjaa", sum := "641b0aa108436216a779e13c50a0ee6ca2742b0d8e85e2ebb314b1cd8938013b", func := "loop.example/g00250/laws.FnPartDisksTold", spec := "fnPartDisksTold", inPlace := ["internal/abi.NoEscape"], unfollowed := true, recurses := true, apart := false }
def FnPartDisksToldSaid : Prop := fnPartDisksToldRow.holds Try.pinned (OpenSpec.ofChange fnPartDisksToldSpec)

/-- ITS FALSE NEIGHBOUR: 'it returns false'. Refute it at one input. -/
def fnPartDisksToldWrong : ChangeSpec := { name := "fnPartDisksTold", fn := fun _ => fun
  | [d] => { results := [.lit (.bool false)], args := [d] }
  | _ => none }
def FnPartDisksToldWrongFalsely : Prop := fnPartDisksToldRow.holds Try.pinned (OpenSpec.ofChange fnPartDisksToldWrong)

/-- 'laws.FnPartsKept': WHATEVER THE INPUT: true; the input reads as it did. -/
def fnPartsKeptSpec : ChangeSpec := { name := "fnPartsKept", fn := fun _ => fun
  | [d] => { results := [.lit (.bool true)], args := [d] }
  | _ => none }
def fnPartsKeptRow : OpenClaim := { program := "ytjgghiniajmfjaa", sum := "641b0aa108436216a779e13c50a0ee6ca2742b0d8e85e2ebb314b1cd8938013b", func := "loop.example/g00250/laws.FnPartsKept", spec := "fnPartsKept", inPlace := ["internal/abi.NoEscape", "slices.overlaps[loop.example/g00250/impl.File]"], unfollowed := true, recurses := true, apart := false }
def FnPartsKeptSaid : Prop := fnPartsKeptRow.holds Try.pinned (OpenSpec.ofChange fnPartsKeptSpec)

/-- ITS FALSE NEIGHBOUR: 'it returns false'. Refute it at one input. -/
def fnPartsKeptWrong : ChangeSpec := { name := "fnPartsKept", fn := fun _ => fun
  | [d] => { results := [.lit (.bool false)], args := [d] }
  | _ => none }
def FnPartsKeptWrongFalsely : Prop := fnPartsKeptRow.holds Try.pinned (OpenSpec.ofChange fnPartsKeptWrong)

/-- 'laws.FnLeads': WHATEVER THE INPUT: true; the input reads as it did. -/
def fnLeadsSpec : ChangeSpec := { name := "fnLeads", fn := fun _ => fun
  | [d] => { results := [.lit (.bool true)], args := [d] }
  | _ => none }
def fnLeadsRow : OpenClaim := { program := "ytjgghiniajmfjaa", sum := "641b0aa108436216a779e13c50a0ee6ca2742b0d8e85e2ebb314b1cd8938013b", func := "loop.example/g00250/laws.FnLeads", spec := "fnLeads", unfollowed := true, recurses := true, apart := false }
def FnLeadsSaid : Prop := fnLeadsRow.holds Try.pinned (OpenSpec.ofChange fnLeadsSpec)

/-- ITS FALSE NEIGHBOUR: 'it returns false'. Refute it at one input. -/
def fnLeadsWrong : ChangeSpec := { name := "fnLeads", fn := fun _ => fun
  | [d] => { results := [.lit (.bool false)], args := [d] }
  | _ => none }
def FnLeadsWrongFalsely : Prop := fnLeadsRow.holds Try.pinned (OpenSpec.ofChange fnLeadsWrong)

/-- 'laws.FnLetters': WHATEVER THE INPUT: true; the input reads as it did. -/
def fnLettersSpec : ChangeSpec := { name := "fnLetters", fn := fun _ => fun
  | [d] => { results := [.lit (.bool true)], args := [d] }
  | _ => none }
def fnLettersRow : OpenClaim := { program := "ytjgghiniajmfjaa", sum := "641b0aa108436216a779e13c50a0ee6ca2742b0d8e85e2ebb314b1cd8938013b", func := "loop.example/g00250/laws.FnLetters", spec := "fnLetters", inPlace := ["internal/abi.NoEscape"], recurses := true, apart := false }
def FnLettersSaid : Prop := fnLettersRow.holds Try.pinned (OpenSpec.ofChange fnLettersSpec)

/-- ITS FALSE NEIGHBOUR: 'it returns false'. Refute it at one input. -/
def fnLettersWrong : ChangeSpec := { name := "fnLetters", fn := fun _ => fun
  | [d] => { results := [.lit (.bool false)], args := [d] }
  | _ => none }
def FnLettersWrongFalsely : Prop := fnLettersRow.holds Try.pinned (OpenSpec.ofChange fnLettersWrong)

/- THE SECOND FORM. 'bulk': how many values and letters a reading holds, each counted each time it is reached (what is shared counts as often as it is met; a slice's spare places count too). A statement '..UptoSaid' is the law's where the arguments, and the package variables that the reading takes, are together of bulk at most 1048576: NARROWER than '..Said'. Prove '..Said' where nothing that the law and all that it calls make is longer than what came in: it says more and counts as full. Else prove '..UptoSaid'. A law counts once. -/
mutual
def uptoBulk {H : Type} : DataW H → Nat
  | .lit (.string bytes) => bytes.length + 1
  | .lit _ => 1
  | .nil => 1
  | .ptr d => uptoBulk d + 1
  | .slice elems spare => uptoBulkAll elems + uptoBulkAll spare + 1
  | .agg parts => uptoBulkAll parts + 1
  | .iface _ d => uptoBulk d + 1
  | .map entries => uptoBulkEntries entries + 1
  | .held _ => 1
def uptoBulkAll {H : Type} : List (DataW H) → Nat
  | [] => 0
  | d :: r => uptoBulk d + uptoBulkAll r
def uptoBulkEntries {H : Type} : List (Lit × DataW H) → Nat
  | [] => 0
  | x :: r => uptoBulkEntry x + uptoBulkEntries r
def uptoBulkEntry {H : Type} : Lit × DataW H → Nat
  | (.string bytes, d) => bytes.length + uptoBulk d + 1
  | (_, d) => uptoBulk d + 1
 end
def uptoSmall : (H : Type) → List (DataW H) → Bool := fun _ ds => decide (uptoBulkAll ds ≤ 1048576)
def OpenSpec.upto (s : _root_.Go.ChangeSpec) : _root_.Go.OpenSpec := { _root_.Go.OpenSpec.ofChange s with cond := some uptoSmall }

/-- 'laws.FnPathsTold', WHERE WHAT IT READS IS OF BULK AT MOST 1048576: true; the input reads as it did. -/
def fnPathsToldUptoRow : OpenClaim := { program := "ytjgghiniajmfjaa", sum := "641b0aa108436216a779e13c50a0ee6ca2742b0d8e85e2ebb314b1cd8938013b", func := "loop.example/g00250/laws.FnPathsTold", spec := "fnPathsTold", unfollowed := true, recurses := true, apart := false, narrowed := true }
def FnPathsToldUptoSaid : Prop := fnPathsToldUptoRow.holds Try.pinned (OpenSpec.upto fnPathsToldSpec)

/-- 'laws.FnEpochsKept', WHERE WHAT IT READS IS OF BULK AT MOST 1048576: true; the input reads as it did. -/
def fnEpochsKeptUptoRow : OpenClaim := { program := "ytjgghiniajmfjaa", sum := "641b0aa108436216a779e13c50a0ee6ca2742b0d8e85e2ebb314b1cd8938013b", func := "loop.example/g00250/laws.FnEpochsKept", spec := "fnEpochsKept", inPlace := ["slices.overlaps[loop.example/g00250/impl.File]"], unfollowed := true, recurses := true, apart := false, narrowed := true }
def FnEpochsKeptUptoSaid : Prop := fnEpochsKeptUptoRow.holds Try.pinned (OpenSpec.upto fnEpochsKeptSpec)

/-- 'laws.FnExactFreshDisk', WHERE WHAT IT READS IS OF BULK AT MOST 1048576: true; the input reads as it did. -/
def fnExactFreshDiskUptoRow : OpenClaim := { program := "ytjgghiniajmfjaa", sum := "641b0aa108436216a779e13c50a0ee6ca2742b0d8e85e2ebb314b1cd8938013b", func := "loop.example/g00250/laws.FnExactFreshDisk", spec := "fnExactFreshDisk", inPlace := ["internal/abi.NoEscape", "slices.overlaps[loop.example/g00250/impl.File]"], unfollowed := true, recurses := true, apart := false, narrowed := true }
def FnExactFreshDiskUptoSaid : Prop := fnExactFreshDiskUptoRow.holds Try.pinned (OpenSpec.upto fnExactFreshDiskSpec)

/-- 'laws.FnPathShown', WHERE WHAT IT READS IS OF BULK AT MOST 1048576: true; the input reads as it did. -/
def fnPathShownUptoRow : OpenClaim := { program := "ytjgghiniajmfjaa", sum := "641b0aa108436216a779e13c50a0ee6ca2742b0d8e85e2ebb314b1cd8938013b", func := "loop.example/g00250/laws.FnPathShown", spec := "fnPathShown", inPlace := ["internal/abi.NoEscape", "internal/bytealg.MakeNoZero"], recurses := true, apart := false, narrowed := true }
def FnPathShownUptoSaid : Prop := fnPathShownUptoRow.holds Try.pinned (OpenSpec.upto fnPathShownSpec)

/-- 'laws.FnPartDisksTold', WHERE WHAT IT READS IS OF BULK AT MOST 1048576: true; the input reads as it did. -/
def fnPartDisksToldUptoRow : OpenClaim := { program := "ytjgghiniajmfjaa", sum := "641b0aa108436216a779e13c50a0ee6ca2742b0d8e85e2ebb314b1cd8938013b", func := "loop.example/g00250/laws.FnPartDisksTold", spec := "fnPartDisksTold", inPlace := ["internal/abi.NoEscape"], unfollowed := true, recurses := true, apart := false, narrowed := true }
def FnPartDisksToldUptoSaid : Prop := fnPartDisksToldUptoRow.holds Try.pinned (OpenSpec.upto fnPartDisksToldSpec)

/-- 'laws.FnPartsKept', WHERE WHAT IT READS IS OF BULK AT MOST 1048576: true; the input reads as it did. -/
def fnPartsKeptUptoRow : OpenClaim := { program := "ytjgghiniajmfjaa", sum := "641b0aa108436216a779e13c50a0ee6ca2742b0d8e85e2ebb314b1cd8938013b", func := "loop.example/g00250/laws.FnPartsKept", spec := "fnPartsKept", inPlace := ["internal/abi.NoEscape", "slices.overlaps[loop.example/g00250/impl.File]"], unfollowed := true, recurses := true, apart := false, narrowed := true }
def FnPartsKeptUptoSaid : Prop := fnPartsKeptUptoRow.holds Try.pinned (OpenSpec.upto fnPartsKeptSpec)

/-- 'laws.FnLeads', WHERE WHAT IT READS IS OF BULK AT MOST 1048576: true; the input reads as it did. -/
def fnLeadsUptoRow : OpenClaim := { program := "ytjgghiniajmfjaa", sum := "641b0aa108436216a779e13c50a0ee6ca2742b0d8e85e2ebb314b1cd8938013b", func := "loop.example/g00250/laws.FnLeads", spec := "fnLeads", unfollowed := true, recurses := true, apart := false, narrowed := true }
def FnLeadsUptoSaid : Prop := fnLeadsUptoRow.holds Try.pinned (OpenSpec.upto fnLeadsSpec)

/-- 'laws.FnLetters', WHERE WHAT IT READS IS OF BULK AT MOST 1048576: true; the input reads as it did. -/
def fnLettersUptoRow : OpenClaim := { program := "ytjgghiniajmfjaa", sum := "641b0aa108436216a779e13c50a0ee6ca2742b0d8e85e2ebb314b1cd8938013b", func := "loop.example/g00250/laws.FnLetters", spec := "fnLetters", inPlace := ["internal/abi.NoEscape"], recurses := true, apart := false, narrowed := true }
def FnLettersUptoSaid : Prop := fnLettersUptoRow.holds Try.pinned (OpenSpec.upto fnLettersSpec)

end Rows
end Go.Proofs.Ytjgghiniajmfjaa
