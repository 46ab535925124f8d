/-
  No cell of these rows narrows 'for every input' (looked for: loops, veiled, ifaces, maps, wideKeys, modest, calm, conditions, laid).
  DERIVED. THE GIVEN ROWS OF THIS SEAT. 12 by the template 'for every input the law returns true; each argument reads behind the call as it read before'; 0 by the template 'total and deterministic' (their statements: YtlomckhfdcdljaaTotals.lean).
  GIVEN WITH THE SEED: the statements are not yours to turn. If you find one false, say at which input.
  Laid BY PROGRAM, IN A SANDBOX (cutbox-rows.mjs): the forced cells as the released guide's own fill.sh prints them over the translation f6313671603e73c9… (all of the seat's roots in one cut). By AI agents, Wed Nov 11 2026. No macro, syntax, notation, axiom, sorry.
-/
import Derived.Test.YtlomckhfdcdljaaChecked
import GoSem.Claim
import GoSem.ClaimJoined
import GoSem.ClaimMapViews
import Derived.JoinedTies
import Derived.KernelRfl
namespace Go.Proofs.Ytlomckhfdcdljaa
/- THE CELL 'sum', in the pinned program and in every row, IS THE sha256 OF THE DUMP (.gsa) THAT YtlomckhfdcdljaaProg.lean LOADS. Nothing in Lean hashes anything: it is a label: what it is worth is what the hold of that sum in a sandbox is worth. -/
noncomputable def Try.pinned : Pinned := { name := "ytlomckhfdcdljaa", sum := "f6313671603e73c9789c03203696eeb8f880f9d8db9de1cb02adb466007ba690", checked := Try.checked }
namespace Rows
def none {H : Type} : Left H := { results := [], args := [] }

/-- 'laws.FnExactWalkOk': WHATEVER THE INPUT: true; the input reads as it did. -/
def fnExactWalkOkSpec : ChangeSpec := { name := "fnExactWalkOk", fn := fun _ => fun
  | [d] => { results := [.lit (.bool true)], args := [d] }
  | _ => none }
def fnExactWalkOkRow : OpenClaim := { program := "ytlomckhfdcdljaa", sum := "f6313671603e73c9789c03203696eeb8f880f9d8db9de1cb02adb466007ba690", func := "loop.example/g00250/laws.FnExactWalkOk", spec := "fnExactWalkOk", apart := false }
def FnExactWalkOkSaid : Prop := fnExactWalkOkRow.holds Try.pinned (OpenSpec.ofChange fnExactWalkOkSpec)

/-- ITS FALSE NEIGHBOUR: 'it returns false'. Refute it at one input. -/
def fnExactWalkOkWrong : ChangeSpec := { name := "fnExactWalkOk", fn := fun _ => fun
  | [d] => { results := [.lit (.bool false)], args := [d] }
  | _ => none }
def FnExactWalkOkWrongFalsely : Prop := fnExactWalkOkRow.holds Try.pinned (OpenSpec.ofChange fnExactWalkOkWrong)

/-- 'laws.FnExactPushOk': WHATEVER THE INPUT: true; the input reads as it did. -/
def fnExactPushOkSpec : ChangeSpec := { name := "fnExactPushOk", fn := fun _ => fun
  | [d] => { results := [.lit (.bool true)], args := [d] }
  | _ => none }
def fnExactPushOkRow : OpenClaim := { program := "ytlomckhfdcdljaa", sum := "f6313671603e73c9789c03203696eeb8f880f9d8db9de1cb02adb466007ba690", func := "loop.example/g00250/laws.FnExactPushOk", spec := "fnExactPushOk", apart := false }
def FnExactPushOkSaid : Prop := fnExactPushOkRow.holds Try.pinned (OpenSpec.ofChange fnExactPushOkSpec)

/-- ITS FALSE NEIGHBOUR: 'it returns false'. Refute it at one input. -/
def fnExactPushOkWrong : ChangeSpec := { name := "fnExactPushOk", fn := fun _ => fun
  | [d] => { results := [.lit (.bool false)], args := [d] }
  | _ => none }
def FnExactPushOkWrongFalsely : Prop := fnExactPushOkRow.holds Try.pinned (OpenSpec.ofChange fnExactPushOkWrong)

/-- 'laws.FnExactPacketOk': WHATEVER THE INPUT: true; the input reads as it did. -/
def fnExactPacketOkSpec : ChangeSpec := { name := "fnExactPacketOk", fn := fun _ => fun
  | [d] => { results := [.lit (.bool true)], args := [d] }
  | _ => none }
def fnExactPacketOkRow : OpenClaim := { program := "ytlomckhfdcdljaa", sum := "f6313671603e73c9789c03203696eeb8f880f9d8db9de1cb02adb466007ba690", func := "loop.example/g00250/laws.FnExactPacketOk", spec := "fnExactPacketOk", apart := false }
def FnExactPacketOkSaid : Prop := fnExactPacketOkRow.holds Try.pinned (OpenSpec.ofChange fnExactPacketOkSpec)

/-- ITS FALSE NEIGHBOUR: 'it returns false'. Refute it at one input. -/
def fnExactPacketOkWrong : ChangeSpec := { name := "fnExactPacketOk", fn := fun _ => fun
  | [d] => { results := [.lit (.bool false)], args := [d] }
  | _ => none }
def FnExactPacketOkWrongFalsely : Prop := fnExactPacketOkRow.holds Try.pinned (OpenSpec.ofChange fnExactPacketOkWrong)

/-- 'laws.FnExactFrame': WHATEVER THE INPUT: true; the input reads as it did. -/
def fnExactFrameSpec : ChangeSpec := { name := "fnExactFrame", fn := fun _ => fun
  | [d] => { results := [.lit (.bool true)], args := [d] }
  | _ => none }
def fnExactFrameRow : OpenClaim := { program := "ytlomckhfdcdljaa", sum := "f6313671603e73c9789c03203696eeb8f880f9d8db9de1cb02adb466007ba690", func := "loop.example/g00250/laws.FnExactFrame", spec := "fnExactFrame", apart := false }
def FnExactFrameSaid : Prop := fnExactFrameRow.holds Try.pinned (OpenSpec.ofChange fnExactFrameSpec)

/-- ITS FALSE NEIGHBOUR: 'it returns false'. Refute it at one input. -/
def fnExactFrameWrong : ChangeSpec := { name := "fnExactFrame", fn := fun _ => fun
  | [d] => { results := [.lit (.bool false)], args := [d] }
  | _ => none }
def FnExactFrameWrongFalsely : Prop := fnExactFrameRow.holds Try.pinned (OpenSpec.ofChange fnExactFrameWrong)

/-- 'laws.FnExactLinkOk': WHATEVER THE INPUT: true; the input reads as it did. -/
def fnExactLinkOkSpec : ChangeSpec := { name := "fnExactLinkOk", fn := fun _ => fun
  | [d] => { results := [.lit (.bool true)], args := [d] }
  | _ => none }
def fnExactLinkOkRow : OpenClaim := { program := "ytlomckhfdcdljaa", sum := "f6313671603e73c9789c03203696eeb8f880f9d8db9de1cb02adb466007ba690", func := "loop.example/g00250/laws.FnExactLinkOk", spec := "fnExactLinkOk", apart := false }
def FnExactLinkOkSaid : Prop := fnExactLinkOkRow.holds Try.pinned (OpenSpec.ofChange fnExactLinkOkSpec)

/-- ITS FALSE NEIGHBOUR: 'it returns false'. Refute it at one input. -/
def fnExactLinkOkWrong : ChangeSpec := { name := "fnExactLinkOk", fn := fun _ => fun
  | [d] => { results := [.lit (.bool false)], args := [d] }
  | _ => none }
def FnExactLinkOkWrongFalsely : Prop := fnExactLinkOkRow.holds Try.pinned (OpenSpec.ofChange fnExactLinkOkWrong)

/-- 'laws.FnExactPacketText': WHATEVER THE INPUT: true; the input reads as it did. -/
def fnExactPacketTextSpec : ChangeSpec := { name := "fnExactPacketText", fn := fun _ => fun
  | [d] => { results := [.lit (.bool true)], args := [d] }
  | _ => none }
def fnExactPacketTextRow : OpenClaim := { program := "ytlomckhfdcdljaa", sum := "f6313671603e73c9789c03203696eeb8f880f9d8db9de1cb02adb466007ba690", func := "loop.example/g00250/laws.FnExactPacketText", spec := "fnExactPacketText", apart := false }
def FnExactPacketTextSaid : Prop := fnExactPacketTextRow.holds Try.pinned (OpenSpec.ofChange fnExactPacketTextSpec)

/-- ITS FALSE NEIGHBOUR: 'it returns false'. Refute it at one input. -/
def fnExactPacketTextWrong : ChangeSpec := { name := "fnExactPacketText", fn := fun _ => fun
  | [d] => { results := [.lit (.bool false)], args := [d] }
  | _ => none }
def FnExactPacketTextWrongFalsely : Prop := fnExactPacketTextRow.holds Try.pinned (OpenSpec.ofChange fnExactPacketTextWrong)

/-- 'laws.FnExactRingQuiet': WHATEVER THE INPUT: true; the input reads as it did. -/
def fnExactRingQuietSpec : ChangeSpec := { name := "fnExactRingQuiet", fn := fun _ => fun
  | [d] => { results := [.lit (.bool true)], args := [d] }
  | _ => none }
def fnExactRingQuietRow : OpenClaim := { program := "ytlomckhfdcdljaa", sum := "f6313671603e73c9789c03203696eeb8f880f9d8db9de1cb02adb466007ba690", func := "loop.example/g00250/laws.FnExactRingQuiet", spec := "fnExactRingQuiet", apart := false }
def FnExactRingQuietSaid : Prop := fnExactRingQuietRow.holds Try.pinned (OpenSpec.ofChange fnExactRingQuietSpec)

/-- ITS FALSE NEIGHBOUR: 'it returns false'. Refute it at one input. -/
def fnExactRingQuietWrong : ChangeSpec := { name := "fnExactRingQuiet", fn := fun _ => fun
  | [d] => { results := [.lit (.bool false)], args := [d] }
  | _ => none }
def FnExactRingQuietWrongFalsely : Prop := fnExactRingQuietRow.holds Try.pinned (OpenSpec.ofChange fnExactRingQuietWrong)

/-- 'laws.FnExactAllKept': WHATEVER THE INPUT: true; the input reads as it did. -/
def fnExactAllKeptSpec : ChangeSpec := { name := "fnExactAllKept", fn := fun _ => fun
  | [d] => { results := [.lit (.bool true)], args := [d] }
  | _ => none }
def fnExactAllKeptRow : OpenClaim := { program := "ytlomckhfdcdljaa", sum := "f6313671603e73c9789c03203696eeb8f880f9d8db9de1cb02adb466007ba690", func := "loop.example/g00250/laws.FnExactAllKept", spec := "fnExactAllKept", apart := false }
def FnExactAllKeptSaid : Prop := fnExactAllKeptRow.holds Try.pinned (OpenSpec.ofChange fnExactAllKeptSpec)

/-- ITS FALSE NEIGHBOUR: 'it returns false'. Refute it at one input. -/
def fnExactAllKeptWrong : ChangeSpec := { name := "fnExactAllKept", fn := fun _ => fun
  | [d] => { results := [.lit (.bool false)], args := [d] }
  | _ => none }
def FnExactAllKeptWrongFalsely : Prop := fnExactAllKeptRow.holds Try.pinned (OpenSpec.ofChange fnExactAllKeptWrong)

/-- 'laws.FnExactRingNew': WHATEVER THE INPUT: true; the input reads as it did. -/
def fnExactRingNewSpec : ChangeSpec := { name := "fnExactRingNew", fn := fun _ => fun
  | [d] => { results := [.lit (.bool true)], args := [d] }
  | _ => none }
def fnExactRingNewRow : OpenClaim := { program := "ytlomckhfdcdljaa", sum := "f6313671603e73c9789c03203696eeb8f880f9d8db9de1cb02adb466007ba690", func := "loop.example/g00250/laws.FnExactRingNew", spec := "fnExactRingNew", apart := false }
def FnExactRingNewSaid : Prop := fnExactRingNewRow.holds Try.pinned (OpenSpec.ofChange fnExactRingNewSpec)

/-- ITS FALSE NEIGHBOUR: 'it returns false'. Refute it at one input. -/
def fnExactRingNewWrong : ChangeSpec := { name := "fnExactRingNew", fn := fun _ => fun
  | [d] => { results := [.lit (.bool false)], args := [d] }
  | _ => none }
def FnExactRingNewWrongFalsely : Prop := fnExactRingNewRow.holds Try.pinned (OpenSpec.ofChange fnExactRingNewWrong)

/-- 'laws.FnExactRingOk': WHATEVER THE INPUT: true; the input reads as it did. -/
def fnExactRingOkSpec : ChangeSpec := { name := "fnExactRingOk", fn := fun _ => fun
  | [d] => { results := [.lit (.bool true)], args := [d] }
  | _ => none }
def fnExactRingOkRow : OpenClaim := { program := "ytlomckhfdcdljaa", sum := "f6313671603e73c9789c03203696eeb8f880f9d8db9de1cb02adb466007ba690", func := "loop.example/g00250/laws.FnExactRingOk", spec := "fnExactRingOk", apart := false }
def FnExactRingOkSaid : Prop := fnExactRingOkRow.holds Try.pinned (OpenSpec.ofChange fnExactRingOkSpec)

/-- ITS FALSE NEIGHBOUR: 'it returns false'. Refute it at one input. -/
def fnExactRingOkWrong : ChangeSpec := { name := "fnExactRingOk", fn := fun _ => fun
  | [d] => { results := [.lit (.bool false)], args := [d] }
  | _ => none }
def FnExactRingOkWrongFalsely : Prop := fnExactRingOkRow.holds Try.pinned (OpenSpec.ofChange fnExactRingOkWrong)

/-- 'laws.FnExactLinkPut': WHATEVER THE INPUT: true; the input reads as it did. -/
def fnExactLinkPutSpec : ChangeSpec := { name := "fnExactLinkPut", fn := fun _ => fun
  | [d1, d2] => { results := [.lit (.bool true)], args := [d1, d2] }
  | _ => none }
def fnExactLinkPutRow : OpenClaim := { program := "ytlomckhfdcdljaa", sum := "f6313671603e73c9789c03203696eeb8f880f9d8db9de1cb02adb466007ba690", func := "loop.example/g00250/laws.FnExactLinkPut", spec := "fnExactLinkPut", apart := false }
def FnExactLinkPutSaid : Prop := fnExactLinkPutRow.holds Try.pinned (OpenSpec.ofChange fnExactLinkPutSpec)

/-- ITS FALSE NEIGHBOUR: 'it returns false'. Refute it at one input. -/
def fnExactLinkPutWrong : ChangeSpec := { name := "fnExactLinkPut", fn := fun _ => fun
  | [d1, d2] => { results := [.lit (.bool false)], args := [d1, d2] }
  | _ => none }
def FnExactLinkPutWrongFalsely : Prop := fnExactLinkPutRow.holds Try.pinned (OpenSpec.ofChange fnExactLinkPutWrong)

/-- 'laws.FnExactUnframe': WHATEVER THE INPUT: true; the input reads as it did. -/
def fnExactUnframeSpec : ChangeSpec := { name := "fnExactUnframe", fn := fun _ => fun
  | [d] => { results := [.lit (.bool true)], args := [d] }
  | _ => none }
def fnExactUnframeRow : OpenClaim := { program := "ytlomckhfdcdljaa", sum := "f6313671603e73c9789c03203696eeb8f880f9d8db9de1cb02adb466007ba690", func := "loop.example/g00250/laws.FnExactUnframe", spec := "fnExactUnframe", apart := false }
def FnExactUnframeSaid : Prop := fnExactUnframeRow.holds Try.pinned (OpenSpec.ofChange fnExactUnframeSpec)

/-- ITS FALSE NEIGHBOUR: 'it returns false'. Refute it at one input. -/
def fnExactUnframeWrong : ChangeSpec := { name := "fnExactUnframe", fn := fun _ => fun
  | [d] => { results := [.lit (.bool false)], args := [d] }
  | _ => none }
def FnExactUnframeWrongFalsely : Prop := fnExactUnframeRow.holds Try.pinned (OpenSpec.ofChange fnExactUnframeWrong)

/- THE SECOND FORM. 'bulk': how many values and letters a reading holds, each counted each time it is reached (what is shared counts as often as it is met; a slice's spare places count too). A statement '..UptoSaid' is the law's where the arguments, and the package variables that the reading takes, are together of bulk at most 1048576: NARROWER than '..Said'. Prove '..Said' where nothing that the law and all that it calls make is longer than what came in: it says more and counts as full. Else prove '..UptoSaid'. A law counts once. -/
mutual
def uptoBulk {H : Type} : DataW H → Nat
  | .lit (.string bytes) => bytes.length + 1
  | .lit _ => 1
  | .nil => 1
  | .ptr d => uptoBulk d + 1
  | .slice elems spare => uptoBulkAll elems + uptoBulkAll spare + 1
  | .agg parts => uptoBulkAll parts + 1
  | .iface _ d => uptoBulk d + 1
  | .map entries => uptoBulkEntries entries + 1
  | .held _ => 1
def uptoBulkAll {H : Type} : List (DataW H) → Nat
  | [] => 0
  | d :: r => uptoBulk d + uptoBulkAll r
def uptoBulkEntries {H : Type} : List (Lit × DataW H) → Nat
  | [] => 0
  | x :: r => uptoBulkEntry x + uptoBulkEntries r
def uptoBulkEntry {H : Type} : Lit × DataW H → Nat
  | (.string bytes, d) => bytes.length + uptoBulk d + 1
  | (_, d) => uptoBulk d + 1
 end
def uptoSmall : (H : Type) → List (DataW H) → Bool := fun _ ds => decide (uptoBulkAll ds ≤ 1048576)
def OpenSpec.upto (s : _root_.Go.ChangeSpec) : _root_.Go.OpenSpec := { _root_.Go.OpenSpec.ofChange s with cond := some uptoSmall }

/-- 'laws.FnExactWalkOk', WHERE WHAT IT READS IS OF BULK AT MOST 1048576: true; the input reads as it did. -/
def fnExactWalkOkUptoRow : OpenClaim := { program := "ytlomckhfdcdljaa", sum := "f6313671603e73c9789c03203696eeb8f880f9d8db9de1cb02adb466007ba690", func := "loop.example/g00250/laws.FnExactWalkOk", spec := "fnExactWalkOk", apart := false, narrowed := true }
def FnExactWalkOkUptoSaid : Prop := fnExactWalkOkUptoRow.holds Try.pinned (OpenSpec.upto fnExactWalkOkSpec)

/-- 'laws.FnExactPushOk', WHERE WHAT IT READS IS OF BULK AT MOST 1048576: true; the input reads as it did. -/
def fnExactPushOkUptoRow : OpenClaim := { program := "ytlomckhfdcdljaa", sum := "f6313671603e73c9789c03203696eeb8f880f9d8db9de1cb02adb466007ba690", func := "loop.example/g00250/laws.FnExactPushOk", spec := "fnExactPushOk", apart := false, narrowed := true }
def FnExactPushOkUptoSaid : Prop := fnExactPushOkUptoRow.holds Try.pinned (OpenSpec.upto fnExactPushOkSpec)

/-- 'laws.FnExactPacketOk', WHERE WHAT IT READS IS OF BULK AT MOST 1048576: true; the input reads as it did. -/
def fnExactPacketOkUptoRow : OpenClaim := { program := "ytlomckhfdcdljaa", sum := "f6313671603e73c9789c03203696eeb8f880f9d8db9de1cb02adb466007ba690", func := "loop.example/g00250/laws.FnExactPacketOk", spec := "fnExactPacketOk", apart := false, narrowed := true }
def FnExactPacketOkUptoSaid : Prop := fnExactPacketOkUptoRow.holds Try.pinned (OpenSpec.upto fnExactPacketOkSpec)

/-- 'laws.FnExactFrame', WHERE WHAT IT READS IS OF BULK AT MOST 1048576: true; the input reads as it did. -/
def fnExactFrameUptoRow : OpenClaim := { program := "ytlomckhfdcdljaa", sum := "f6313671603e73c9789c03203696eeb8f880f9d8db9de1cb02adb466007ba690", func := "loop.example/g00250/laws.FnExactFrame", spec := "fnExactFrame", apart := false, narrowed := true }
def FnExactFrameUptoSaid : Prop := fnExactFrameUptoRow.holds Try.pinned (OpenSpec.upto fnExactFrameSpec)

/-- 'laws.FnExactLinkOk', WHERE WHAT IT READS IS OF BULK AT MOST 1048576: true; the input reads as it did. -/
def fnExactLinkOkUptoRow : OpenClaim := { program := "ytlomckhfdcdljaa", sum := "f6313671603e73c9789c03203696eeb8f880f9d8db9de1cb02adb466007ba690", func := "loop.example/g00250/laws.FnExactLinkOk", spec := "fnExactLinkOk", apart := false, narrowed := true }
def FnExactLinkOkUptoSaid : Prop := fnExactLinkOkUptoRow.holds Try.pinned (OpenSpec.upto fnExactLinkOkSpec)

/-- 'laws.FnExactPacketText', WHERE WHAT IT READS IS OF BULK AT MOST 1048576: true; the input reads as it did. -/
def fnExactPacketTextUptoRow : OpenClaim := { program := "ytlomckhfdcdljaa", sum := "f6313671603e73c9789c03203696eeb8f880f9d8db9de1cb02adb466007ba690", func := "loop.example/g00250/laws.FnExactPacketText", spec := "fnExactPacketText", apart := false, narrowed := true }
def FnExactPacketTextUptoSaid : Prop := fnExactPacketTextUptoRow.holds Try.pinned (OpenSpec.upto fnExactPacketTextSpec)

/-- 'laws.FnExactRingQuiet', WHERE WHAT IT READS IS OF BULK AT MOST 1048576: true; the input reads as it did. -/
def fnExactRingQuietUptoRow : OpenClaim := { program := "ytlomckhfdcdljaa", sum := "f6313671603e73c9789c03203696eeb8f880f9d8db9de1cb02adb466007ba690", func := "loop.example/g00250/laws.FnExactRingQuiet", spec := "fnExactRingQuiet", apart := false, narrowed := true }
def FnExactRingQuietUptoSaid : Prop := fnExactRingQuietUptoRow.holds Try.pinned (OpenSpec.upto fnExactRingQuietSpec)

/-- 'laws.FnExactAllKept', WHERE WHAT IT READS IS OF BULK AT MOST 1048576: true; the input reads as it did. -/
def fnExactAllKeptUptoRow : OpenClaim := { program := "ytlomckhfdcdljaa", sum := "f6313671603e73c9789c03203696eeb8f880f9d8db9de1cb02adb466007ba690", func := "loop.example/g00250/laws.FnExactAllKept", spec := "fnExactAllKept", apart := false, narrowed := true }
def FnExactAllKeptUptoSaid : Prop := fnExactAllKeptUptoRow.holds Try.pinned (OpenSpec.upto fnExactAllKeptSpec)

/-- 'laws.FnExactRingNew', WHERE WHAT IT READS IS OF BULK AT MOST 1048576: true; the input reads as it did. -/
def fnExactRingNewUptoRow : OpenClaim := { program := "ytlomckhfdcdljaa", sum := "f6313671603e73c9789c03203696eeb8f880f9d8db9de1cb02adb466007ba690", func := "loop.example/g00250/laws.FnExactRingNew", spec := "fnExactRingNew", apart := false, narrowed := true }
def FnExactRingNewUptoSaid : Prop := fnExactRingNewUptoRow.holds Try.pinned (OpenSpec.upto fnExactRingNewSpec)

/-- 'laws.FnExactRingOk', WHERE WHAT IT READS IS OF BULK AT MOST 1048576: true; the input reads as it did. -/
def fnExactRingOkUptoRow : OpenClaim := { program := "ytlomckhfdcdljaa", sum := "f6313671603e73c9789c03203696eeb8f880f9d8db9de1cb02adb466007ba690", func := "loop.example/g00250/laws.FnExactRingOk", spec := "fnExactRingOk", apart := false, narrowed := true }
def FnExactRingOkUptoSaid : Prop := fnExactRingOkUptoRow.holds Try.pinned (OpenSpec.upto fnExactRingOkSpec)

/-- 'laws.FnExactLinkPut', WHERE WHAT IT READS IS OF BULK AT MOST 1048576: true; the input reads as it did. -/
def fnExactLinkPutUptoRow : OpenClaim := { program := "ytlomckhfdcdljaa", sum := "f6313671603e73c9789c03203696eeb8f880f9d8db9de1cb02adb466007ba690", func := "loop.example/g00250/laws.FnExactLinkPut", spec := "fnExactLinkPut", apart := false, narrowed := true }
def FnExactLinkPutUptoSaid : Prop := fnExactLinkPutUptoRow.holds Try.pinned (OpenSpec.upto fnExactLinkPutSpec)

/-- 'laws.FnExactUnframe', WHERE WHAT IT READS IS OF BULK AT MOST 1048576: true; the input reads as it did. -/
def fnExactUnframeUptoRow : OpenClaim := { program := "ytlomckhfdcdljaa", sum := "f6313671603e73c9789c03203696eeb8f880f9d8db9de1cb02adb466007ba690", func := "loop.example/g00250/laws.FnExactUnframe", spec := "fnExactUnframe", apart := false, narrowed := true }
def FnExactUnframeUptoSaid : Prop := fnExactUnframeUptoRow.holds Try.pinned (OpenSpec.upto fnExactUnframeSpec)

end Rows
end Go.Proofs.Ytlomckhfdcdljaa
