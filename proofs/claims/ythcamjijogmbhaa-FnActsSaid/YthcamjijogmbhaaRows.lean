/-
  No cell of these rows narrows 'for every input' (looked for: loops, veiled, ifaces, maps, wideKeys, modest, calm, conditions, laid).
  DERIVED. THE GIVEN ROWS OF THIS SEAT. 7 by the template 'for every input the law returns true; each argument reads behind the call as it read before'; 0 by the template 'total and deterministic' (their statements: YthcamjijogmbhaaTotals.lean).
  GIVEN WITH THE SEED: the statements are not yours to turn. If you find one false, say at which input.
  Laid BY PROGRAM, IN A SANDBOX (cutbox-rows.mjs): the forced cells as the released guide's own fill.sh prints them over the translation 71c8e9eb311b3e12… (all of the seat's roots in one cut). By AI agents, Wed Nov 11 2026. No macro, syntax, notation, axiom, sorry.
-/
import Derived.Test.YthcamjijogmbhaaChecked
import GoSem.Claim
import GoSem.ClaimJoined
import GoSem.ClaimMapViews
import Derived.JoinedTies
import Derived.KernelRfl
namespace Go.Proofs.Ythcamjijogmbhaa
/- THE CELL 'sum', in the pinned program and in every row, IS THE sha256 OF THE DUMP (.gsa) THAT YthcamjijogmbhaaProg.lean LOADS. Nothing in Lean hashes anything: it is a label: what it is worth is what the hold of that sum in a sandbox is worth. -/
noncomputable def Try.pinned : Pinned := { name := "ythcamjijogmbhaa", sum := "71c8e9eb311b3e12d6dd5967c267846c2b4179aba26860ef77000512ec90f403", checked := Try.checked }
namespace Rows
def none {H : Type} : Left H := { results := [], args := [] }

/-- 'laws.FnExactParcelsOf': WHATEVER THE INPUT: true; the input reads as it did. -/
def fnExactParcelsOfSpec : ChangeSpec := { name := "fnExactParcelsOf", fn := fun _ => fun
  | [d1, d2] => { results := [.lit (.bool true)], args := [d1, d2] }
  | _ => none }
def fnExactParcelsOfRow : OpenClaim := { program := "ythcamjijogmbhaa", sum := "71c8e9eb311b3e12d6dd5967c267846c2b4179aba26860ef77000512ec90f403", func := "loop.example/g00250/laws.FnExactParcelsOf", spec := "fnExactParcelsOf", apart := false }
def FnExactParcelsOfSaid : Prop := fnExactParcelsOfRow.holds Try.pinned (OpenSpec.ofChange fnExactParcelsOfSpec)

/-- ITS FALSE NEIGHBOUR: 'it returns false'. Refute it at one input. -/
def fnExactParcelsOfWrong : ChangeSpec := { name := "fnExactParcelsOf", fn := fun _ => fun
  | [d1, d2] => { results := [.lit (.bool false)], args := [d1, d2] }
  | _ => none }
def FnExactParcelsOfWrongFalsely : Prop := fnExactParcelsOfRow.holds Try.pinned (OpenSpec.ofChange fnExactParcelsOfWrong)

/-- 'laws.FnExactLetterOk': WHATEVER THE INPUT: true; the input reads as it did. -/
def fnExactLetterOkSpec : ChangeSpec := { name := "fnExactLetterOk", fn := fun _ => fun
  | [d] => { results := [.lit (.bool true)], args := [d] }
  | _ => none }
def fnExactLetterOkRow : OpenClaim := { program := "ythcamjijogmbhaa", sum := "71c8e9eb311b3e12d6dd5967c267846c2b4179aba26860ef77000512ec90f403", func := "loop.example/g00250/laws.FnExactLetterOk", spec := "fnExactLetterOk", apart := false }
def FnExactLetterOkSaid : Prop := fnExactLetterOkRow.holds Try.pinned (OpenSpec.ofChange fnExactLetterOkSpec)

/-- ITS FALSE NEIGHBOUR: 'it returns false'. Refute it at one input. -/
def fnExactLetterOkWrong : ChangeSpec := { name := "fnExactLetterOk", fn := fun _ => fun
  | [d] => { results := [.lit (.bool false)], args := [d] }
  | _ => none }
def FnExactLetterOkWrongFalsely : Prop := fnExactLetterOkRow.holds Try.pinned (OpenSpec.ofChange fnExactLetterOkWrong)

/-- 'laws.FnExactPartActs': WHATEVER THE INPUT: true; the input reads as it did. -/
def fnExactPartActsSpec : ChangeSpec := { name := "fnExactPartActs", fn := fun _ => fun
  | [d] => { results := [.lit (.bool true)], args := [d] }
  | _ => none }
def fnExactPartActsRow : OpenClaim := { program := "ythcamjijogmbhaa", sum := "71c8e9eb311b3e12d6dd5967c267846c2b4179aba26860ef77000512ec90f403", func := "loop.example/g00250/laws.FnExactPartActs", spec := "fnExactPartActs", inPlace := ["internal/abi.NoEscape"], apart := false }
def FnExactPartActsSaid : Prop := fnExactPartActsRow.holds Try.pinned (OpenSpec.ofChange fnExactPartActsSpec)

/-- ITS FALSE NEIGHBOUR: 'it returns false'. Refute it at one input. -/
def fnExactPartActsWrong : ChangeSpec := { name := "fnExactPartActs", fn := fun _ => fun
  | [d] => { results := [.lit (.bool false)], args := [d] }
  | _ => none }
def FnExactPartActsWrongFalsely : Prop := fnExactPartActsRow.holds Try.pinned (OpenSpec.ofChange fnExactPartActsWrong)

/-- 'laws.FnExactLetterText': WHATEVER THE INPUT: true; the input reads as it did. -/
def fnExactLetterTextSpec : ChangeSpec := { name := "fnExactLetterText", fn := fun _ => fun
  | [d] => { results := [.lit (.bool true)], args := [d] }
  | _ => none }
def fnExactLetterTextRow : OpenClaim := { program := "ythcamjijogmbhaa", sum := "71c8e9eb311b3e12d6dd5967c267846c2b4179aba26860ef77000512ec90f403", func := "loop.example/g00250/laws.FnExactLetterText", spec := "fnExactLetterText", inPlace := ["internal/abi.NoEscape"], apart := false }
def FnExactLetterTextSaid : Prop := fnExactLetterTextRow.holds Try.pinned (OpenSpec.ofChange fnExactLetterTextSpec)

/-- ITS FALSE NEIGHBOUR: 'it returns false'. Refute it at one input. -/
def fnExactLetterTextWrong : ChangeSpec := { name := "fnExactLetterText", fn := fun _ => fun
  | [d] => { results := [.lit (.bool false)], args := [d] }
  | _ => none }
def FnExactLetterTextWrongFalsely : Prop := fnExactLetterTextRow.holds Try.pinned (OpenSpec.ofChange fnExactLetterTextWrong)

/-- 'laws.FnActs': WHATEVER THE INPUT: true; the input reads as it did. -/
def fnActsSpec : ChangeSpec := { name := "fnActs", fn := fun _ => fun
  | [d] => { results := [.lit (.bool true)], args := [d] }
  | _ => none }
def fnActsRow : OpenClaim := { program := "ythcamjijogmbhaa", sum := "71c8e9eb311b3e12d6dd5967c267846c2b4179aba26860ef77000512ec90f403", func := "loop.example/g00250/laws.FnActs", spec := "fnActs", inPlace := ["slices.overlaps[loop.example/g00250/impl.File]"], unfollowed := true, recurses := true, apart := false }
def FnActsSaid : Prop := fnActsRow.holds Try.pinned (OpenSpec.ofChange fnActsSpec)

/-- ITS FALSE NEIGHBOUR: 'it returns false'. Refute it at one input. -/
def fnActsWrong : ChangeSpec := { name := "fnActs", fn := fun _ => fun
  | [d] => { results := [.lit (.bool false)], args := [d] }
  | _ => none }
def FnActsWrongFalsely : Prop := fnActsRow.holds Try.pinned (OpenSpec.ofChange fnActsWrong)

/-- 'laws.FnExactReadLetter': WHATEVER THE INPUT: true; the input reads as it did. -/
def fnExactReadLetterSpec : ChangeSpec := { name := "fnExactReadLetter", fn := fun _ => fun
  | [d] => { results := [.lit (.bool true)], args := [d] }
  | _ => none }
def fnExactReadLetterRow : OpenClaim := { program := "ythcamjijogmbhaa", sum := "71c8e9eb311b3e12d6dd5967c267846c2b4179aba26860ef77000512ec90f403", func := "loop.example/g00250/laws.FnExactReadLetter", spec := "fnExactReadLetter", inPlace := ["internal/abi.NoEscape"], apart := false }
def FnExactReadLetterSaid : Prop := fnExactReadLetterRow.holds Try.pinned (OpenSpec.ofChange fnExactReadLetterSpec)

/-- ITS FALSE NEIGHBOUR: 'it returns false'. Refute it at one input. -/
def fnExactReadLetterWrong : ChangeSpec := { name := "fnExactReadLetter", fn := fun _ => fun
  | [d] => { results := [.lit (.bool false)], args := [d] }
  | _ => none }
def FnExactReadLetterWrongFalsely : Prop := fnExactReadLetterRow.holds Try.pinned (OpenSpec.ofChange fnExactReadLetterWrong)

/-- 'laws.FnExactReadPart': WHATEVER THE INPUT: true; the input reads as it did. -/
def fnExactReadPartSpec : ChangeSpec := { name := "fnExactReadPart", fn := fun _ => fun
  | [d] => { results := [.lit (.bool true)], args := [d] }
  | _ => none }
def fnExactReadPartRow : OpenClaim := { program := "ythcamjijogmbhaa", sum := "71c8e9eb311b3e12d6dd5967c267846c2b4179aba26860ef77000512ec90f403", func := "loop.example/g00250/laws.FnExactReadPart", spec := "fnExactReadPart", unfollowed := true, recurses := true, apart := false }
def FnExactReadPartSaid : Prop := fnExactReadPartRow.holds Try.pinned (OpenSpec.ofChange fnExactReadPartSpec)

/-- ITS FALSE NEIGHBOUR: 'it returns false'. Refute it at one input. -/
def fnExactReadPartWrong : ChangeSpec := { name := "fnExactReadPart", fn := fun _ => fun
  | [d] => { results := [.lit (.bool false)], args := [d] }
  | _ => none }
def FnExactReadPartWrongFalsely : Prop := fnExactReadPartRow.holds Try.pinned (OpenSpec.ofChange fnExactReadPartWrong)

/- THE SECOND FORM. 'bulk': how many values and letters a reading holds, each counted each time it is reached (what is shared counts as often as it is met; a slice's spare places count too). A statement '..UptoSaid' is the law's where the arguments, and the package variables that the reading takes, are together of bulk at most 1048576: NARROWER than '..Said'. Prove '..Said' where nothing that the law and all that it calls make is longer than what came in: it says more and counts as full. Else prove '..UptoSaid'. A law counts once. -/
mutual
def uptoBulk {H : Type} : DataW H → Nat
  | .lit (.string bytes) => bytes.length + 1
  | .lit _ => 1
  | .nil => 1
  | .ptr d => uptoBulk d + 1
  | .slice elems spare => uptoBulkAll elems + uptoBulkAll spare + 1
  | .agg parts => uptoBulkAll parts + 1
  | .iface _ d => uptoBulk d + 1
  | .map entries => uptoBulkEntries entries + 1
  | .held _ => 1
def uptoBulkAll {H : Type} : List (DataW H) → Nat
  | [] => 0
  | d :: r => uptoBulk d + uptoBulkAll r
def uptoBulkEntries {H : Type} : List (Lit × DataW H) → Nat
  | [] => 0
  | x :: r => uptoBulkEntry x + uptoBulkEntries r
def uptoBulkEntry {H : Type} : Lit × DataW H → Nat
  | (.string bytes, d) => bytes.length + uptoBulk d + 1
  | (_, d) => uptoBulk d + 1
 end
def uptoSmall : (H : Type) → List (DataW H) → Bool := fun _ ds => decide (uptoBulkAll ds ≤ 1048576)
def OpenSpec.upto (s : _root_.Go.ChangeSpec) : _root_.Go.OpenSpec := { _root_.Go.OpenSpec.ofChange s with cond := some uptoSmall }

/-- 'laws.FnExactParcelsOf', WHERE WHAT IT READS IS OF BULK AT MOST 1048576: true; the input reads as it did. -/
def fnExactParcelsOfUptoRow : OpenClaim := { program := "ythcamjijogmbhaa", sum := "71c8e9eb311b3e12d6dd5967c267846c2b4179aba26860ef77000512ec90f403", func := "loop.example/g00250/laws.FnExactParcelsOf", spec := "fnExactParcelsOf", apart := false, narrowed := true }
def FnExactParcelsOfUptoSaid : Prop := fnExactParcelsOfUptoRow.holds Try.pinned (OpenSpec.upto fnExactParcelsOfSpec)

/-- 'laws.FnExactLetterOk', WHERE WHAT IT READS IS OF BULK AT MOST 1048576: true; the input reads as it did. -/
def fnExactLetterOkUptoRow : OpenClaim := { program := "ythcamjijogmbhaa", sum := "71c8e9eb311b3e12d6dd5967c267846c2b4179aba26860ef77000512ec90f403", func := "loop.example/g00250/laws.FnExactLetterOk", spec := "fnExactLetterOk", apart := false, narrowed := true }
def FnExactLetterOkUptoSaid : Prop := fnExactLetterOkUptoRow.holds Try.pinned (OpenSpec.upto fnExactLetterOkSpec)

/-- 'laws.FnExactPartActs', WHERE WHAT IT READS IS OF BULK AT MOST 1048576: true; the input reads as it did. -/
def fnExactPartActsUptoRow : OpenClaim := { program := "ythcamjijogmbhaa", sum := "71c8e9eb311b3e12d6dd5967c267846c2b4179aba26860ef77000512ec90f403", func := "loop.example/g00250/laws.FnExactPartActs", spec := "fnExactPartActs", inPlace := ["internal/abi.NoEscape"], apart := false, narrowed := true }
def FnExactPartActsUptoSaid : Prop := fnExactPartActsUptoRow.holds Try.pinned (OpenSpec.upto fnExactPartActsSpec)

/-- 'laws.FnExactLetterText', WHERE WHAT IT READS IS OF BULK AT MOST 1048576: true; the input reads as it did. -/
def fnExactLetterTextUptoRow : OpenClaim := { program := "ythcamjijogmbhaa", sum := "71c8e9eb311b3e12d6dd5967c267846c2b4179aba26860ef77000512ec90f403", func := "loop.example/g00250/laws.FnExactLetterText", spec := "fnExactLetterText", inPlace := ["internal/abi.NoEscape"], apart := false, narrowed := true }
def FnExactLetterTextUptoSaid : Prop := fnExactLetterTextUptoRow.holds Try.pinned (OpenSpec.upto fnExactLetterTextSpec)

/-- 'laws.FnActs', WHERE WHAT IT READS IS OF BULK AT MOST 1048576: true; the input reads as it did. -/
def fnActsUptoRow : OpenClaim := { program := "ythcamjijogmbhaa", sum := "71c8e9eb311b3e12d6dd5967c267846c2b4179aba26860ef77000512ec90f403", func := "loop.example/g00250/laws.FnActs", spec := "fnActs", inPlace := ["slices.overlaps[loop.example/g00250/impl.File]"], unfollowed := true, recurses := true, apart := false, narrowed := true }
def FnActsUptoSaid : Prop := fnActsUptoRow.holds Try.pinned (OpenSpec.upto fnActsSpec)

/-- 'laws.FnExactReadLetter', WHERE WHAT IT READS IS OF BULK AT MOST 1048576: true; the input reads as it did. -/
def fnExactReadLetterUptoRow : OpenClaim := { program := "ythcamjijogmbhaa", sum := "71c8e9eb311b3e12d6dd5967c267846c2b4179aba26860ef77000512ec90f403", func := "loop.example/g00250/laws.FnExactReadLetter", spec := "fnExactReadLetter", inPlace := ["internal/abi.NoEscape"], apart := false, narrowed := true }
def FnExactReadLetterUptoSaid : Prop := fnExactReadLetterUptoRow.holds Try.pinned (OpenSpec.upto fnExactReadLetterSpec)

/-- 'laws.FnExactReadPart', WHERE WHAT IT READS IS OF BULK AT MOST 1048576: true; the input reads as it did. -/
def fnExactReadPartUptoRow : OpenClaim := { program := "ythcamjijogmbhaa", sum := "71c8e9eb311b3e12d6dd5967c267846c2b4179aba26860ef77000512ec90f403", func := "loop.example/g00250/laws.FnExactReadPart", spec := "fnExactReadPart", unfollowed := true, recurses := true, apart := false, narrowed := true }
def FnExactReadPartUptoSaid : Prop := fnExactReadPartUptoRow.holds Try.pinned (OpenSpec.upto fnExactReadPartSpec)

end Rows
end Go.Proofs.Ythcamjijogmbhaa
