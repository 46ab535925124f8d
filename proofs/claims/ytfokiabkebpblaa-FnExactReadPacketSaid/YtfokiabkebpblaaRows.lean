/-
  No cell of these rows narrows 'for every input' (looked for: loops, veiled, ifaces, maps, wideKeys, modest, calm, conditions, laid).
  DERIVED. THE GIVEN ROWS OF THIS SEAT. 12 by the template 'for every input the law returns true; each argument reads behind the call as it read before'; 0 by the template 'total and deterministic' (their statements: YtfokiabkebpblaaTotals.lean).
  GIVEN WITH THE SEED: the statements are not yours to turn. If you find one false, say at which input.
  Laid BY PROGRAM, IN A SANDBOX (cutbox-rows.mjs): the forced cells as the released guide's own fill.sh prints them over the translation 563e89bfd948b8a7… (all of the seat's roots in one cut). By AI agents, Wed Nov 11 2026. No macro, syntax, notation, axiom, sorry.
-/
import Derived.Test.YtfokiabkebpblaaChecked
import GoSem.Claim
import GoSem.ClaimJoined
import GoSem.ClaimMapViews
import Derived.JoinedTies
import Derived.KernelRfl
namespace Go.Proofs.Ytfokiabkebpblaa
/- THE CELL 'sum', in the pinned program and in every row, IS THE sha256 OF THE DUMP (.gsa) THAT YtfokiabkebpblaaProg.lean LOADS. Nothing in Lean hashes anything: it is a label: what it is worth is what the hold of that sum in a sandbox is worth. -/
noncomputable def Try.pinned : Pinned := { name := "ytfokiabkebpblaa", sum := "563e89bfd948b8a716eadb1a22aa93b744497a3da15077b04c566206f2b6f172", checked := Try.checked }
namespace Rows
def none {H : Type} : Left H := { results := [], args := [] }

/-- 'laws.FnExactEpochActs': WHATEVER THE INPUT: true; the input reads as it did. -/
def fnExactEpochActsSpec : ChangeSpec := { name := "fnExactEpochActs", fn := fun _ => fun
  | [d] => { results := [.lit (.bool true)], args := [d] }
  | _ => none }
def fnExactEpochActsRow : OpenClaim := { program := "ytfokiabkebpblaa", sum := "563e89bfd948b8a716eadb1a22aa93b744497a3da15077b04c566206f2b6f172", func := "loop.example/g00250/laws.FnExactEpochActs", spec := "fnExactEpochActs", apart := false }
def FnExactEpochActsSaid : Prop := fnExactEpochActsRow.holds Try.pinned (OpenSpec.ofChange fnExactEpochActsSpec)

/-- ITS FALSE NEIGHBOUR: 'it returns false'. Refute it at one input. -/
def fnExactEpochActsWrong : ChangeSpec := { name := "fnExactEpochActs", fn := fun _ => fun
  | [d] => { results := [.lit (.bool false)], args := [d] }
  | _ => none }
def FnExactEpochActsWrongFalsely : Prop := fnExactEpochActsRow.holds Try.pinned (OpenSpec.ofChange fnExactEpochActsWrong)

/-- 'laws.FnExactLinkTake': WHATEVER THE INPUT: true; the input reads as it did. -/
def fnExactLinkTakeSpec : ChangeSpec := { name := "fnExactLinkTake", fn := fun _ => fun
  | [d1, d2] => { results := [.lit (.bool true)], args := [d1, d2] }
  | _ => none }
def fnExactLinkTakeRow : OpenClaim := { program := "ytfokiabkebpblaa", sum := "563e89bfd948b8a716eadb1a22aa93b744497a3da15077b04c566206f2b6f172", func := "loop.example/g00250/laws.FnExactLinkTake", spec := "fnExactLinkTake", apart := false }
def FnExactLinkTakeSaid : Prop := fnExactLinkTakeRow.holds Try.pinned (OpenSpec.ofChange fnExactLinkTakeSpec)

/-- ITS FALSE NEIGHBOUR: 'it returns false'. Refute it at one input. -/
def fnExactLinkTakeWrong : ChangeSpec := { name := "fnExactLinkTake", fn := fun _ => fun
  | [d1, d2] => { results := [.lit (.bool false)], args := [d1, d2] }
  | _ => none }
def FnExactLinkTakeWrongFalsely : Prop := fnExactLinkTakeRow.holds Try.pinned (OpenSpec.ofChange fnExactLinkTakeWrong)

/-- 'laws.FnExactParcelsOf': WHATEVER THE INPUT: true; the input reads as it did. -/
def fnExactParcelsOfSpec : ChangeSpec := { name := "fnExactParcelsOf", fn := fun _ => fun
  | [d1, d2] => { results := [.lit (.bool true)], args := [d1, d2] }
  | _ => none }
def fnExactParcelsOfRow : OpenClaim := { program := "ytfokiabkebpblaa", sum := "563e89bfd948b8a716eadb1a22aa93b744497a3da15077b04c566206f2b6f172", func := "loop.example/g00250/laws.FnExactParcelsOf", spec := "fnExactParcelsOf", apart := false }
def FnExactParcelsOfSaid : Prop := fnExactParcelsOfRow.holds Try.pinned (OpenSpec.ofChange fnExactParcelsOfSpec)

/-- ITS FALSE NEIGHBOUR: 'it returns false'. Refute it at one input. -/
def fnExactParcelsOfWrong : ChangeSpec := { name := "fnExactParcelsOf", fn := fun _ => fun
  | [d1, d2] => { results := [.lit (.bool false)], args := [d1, d2] }
  | _ => none }
def FnExactParcelsOfWrongFalsely : Prop := fnExactParcelsOfRow.holds Try.pinned (OpenSpec.ofChange fnExactParcelsOfWrong)

/-- 'laws.FnExactLoseDisk': WHATEVER THE INPUT: true; the input reads as it did. -/
def fnExactLoseDiskSpec : ChangeSpec := { name := "fnExactLoseDisk", fn := fun _ => fun
  | [d1, d2] => { results := [.lit (.bool true)], args := [d1, d2] }
  | _ => none }
def fnExactLoseDiskRow : OpenClaim := { program := "ytfokiabkebpblaa", sum := "563e89bfd948b8a716eadb1a22aa93b744497a3da15077b04c566206f2b6f172", func := "loop.example/g00250/laws.FnExactLoseDisk", spec := "fnExactLoseDisk", apart := false }
def FnExactLoseDiskSaid : Prop := fnExactLoseDiskRow.holds Try.pinned (OpenSpec.ofChange fnExactLoseDiskSpec)

/-- ITS FALSE NEIGHBOUR: 'it returns false'. Refute it at one input. -/
def fnExactLoseDiskWrong : ChangeSpec := { name := "fnExactLoseDisk", fn := fun _ => fun
  | [d1, d2] => { results := [.lit (.bool false)], args := [d1, d2] }
  | _ => none }
def FnExactLoseDiskWrongFalsely : Prop := fnExactLoseDiskRow.holds Try.pinned (OpenSpec.ofChange fnExactLoseDiskWrong)

/-- 'laws.FnExactReadPacket': WHATEVER THE INPUT: true; the input reads as it did. -/
def fnExactReadPacketSpec : ChangeSpec := { name := "fnExactReadPacket", fn := fun _ => fun
  | [d] => { results := [.lit (.bool true)], args := [d] }
  | _ => none }
def fnExactReadPacketRow : OpenClaim := { program := "ytfokiabkebpblaa", sum := "563e89bfd948b8a716eadb1a22aa93b744497a3da15077b04c566206f2b6f172", func := "loop.example/g00250/laws.FnExactReadPacket", spec := "fnExactReadPacket", apart := false }
def FnExactReadPacketSaid : Prop := fnExactReadPacketRow.holds Try.pinned (OpenSpec.ofChange fnExactReadPacketSpec)

/-- ITS FALSE NEIGHBOUR: 'it returns false'. Refute it at one input. -/
def fnExactReadPacketWrong : ChangeSpec := { name := "fnExactReadPacket", fn := fun _ => fun
  | [d] => { results := [.lit (.bool false)], args := [d] }
  | _ => none }
def FnExactReadPacketWrongFalsely : Prop := fnExactReadPacketRow.holds Try.pinned (OpenSpec.ofChange fnExactReadPacketWrong)

/-- 'laws.FnExactPairDone': WHATEVER THE INPUT: true; the input reads as it did. -/
def fnExactPairDoneSpec : ChangeSpec := { name := "fnExactPairDone", fn := fun _ => fun
  | [d] => { results := [.lit (.bool true)], args := [d] }
  | _ => none }
def fnExactPairDoneRow : OpenClaim := { program := "ytfokiabkebpblaa", sum := "563e89bfd948b8a716eadb1a22aa93b744497a3da15077b04c566206f2b6f172", func := "loop.example/g00250/laws.FnExactPairDone", spec := "fnExactPairDone", apart := false }
def FnExactPairDoneSaid : Prop := fnExactPairDoneRow.holds Try.pinned (OpenSpec.ofChange fnExactPairDoneSpec)

/-- ITS FALSE NEIGHBOUR: 'it returns false'. Refute it at one input. -/
def fnExactPairDoneWrong : ChangeSpec := { name := "fnExactPairDone", fn := fun _ => fun
  | [d] => { results := [.lit (.bool false)], args := [d] }
  | _ => none }
def FnExactPairDoneWrongFalsely : Prop := fnExactPairDoneRow.holds Try.pinned (OpenSpec.ofChange fnExactPairDoneWrong)

/-- 'laws.FnExactPairRight': WHATEVER THE INPUT: true; the input reads as it did. -/
def fnExactPairRightSpec : ChangeSpec := { name := "fnExactPairRight", fn := fun _ => fun
  | [d] => { results := [.lit (.bool true)], args := [d] }
  | _ => none }
def fnExactPairRightRow : OpenClaim := { program := "ytfokiabkebpblaa", sum := "563e89bfd948b8a716eadb1a22aa93b744497a3da15077b04c566206f2b6f172", func := "loop.example/g00250/laws.FnExactPairRight", spec := "fnExactPairRight", apart := false }
def FnExactPairRightSaid : Prop := fnExactPairRightRow.holds Try.pinned (OpenSpec.ofChange fnExactPairRightSpec)

/-- ITS FALSE NEIGHBOUR: 'it returns false'. Refute it at one input. -/
def fnExactPairRightWrong : ChangeSpec := { name := "fnExactPairRight", fn := fun _ => fun
  | [d] => { results := [.lit (.bool false)], args := [d] }
  | _ => none }
def FnExactPairRightWrongFalsely : Prop := fnExactPairRightRow.holds Try.pinned (OpenSpec.ofChange fnExactPairRightWrong)

/-- 'laws.FnExactLinkPackets': WHATEVER THE INPUT: true; the input reads as it did. -/
def fnExactLinkPacketsSpec : ChangeSpec := { name := "fnExactLinkPackets", fn := fun _ => fun
  | [d1, d2, d3, d4] => { results := [.lit (.bool true)], args := [d1, d2, d3, d4] }
  | _ => none }
def fnExactLinkPacketsRow : OpenClaim := { program := "ytfokiabkebpblaa", sum := "563e89bfd948b8a716eadb1a22aa93b744497a3da15077b04c566206f2b6f172", func := "loop.example/g00250/laws.FnExactLinkPackets", spec := "fnExactLinkPackets", apart := false }
def FnExactLinkPacketsSaid : Prop := fnExactLinkPacketsRow.holds Try.pinned (OpenSpec.ofChange fnExactLinkPacketsSpec)

/-- ITS FALSE NEIGHBOUR: 'it returns false'. Refute it at one input. -/
def fnExactLinkPacketsWrong : ChangeSpec := { name := "fnExactLinkPackets", fn := fun _ => fun
  | [d1, d2, d3, d4] => { results := [.lit (.bool false)], args := [d1, d2, d3, d4] }
  | _ => none }
def FnExactLinkPacketsWrongFalsely : Prop := fnExactLinkPacketsRow.holds Try.pinned (OpenSpec.ofChange fnExactLinkPacketsWrong)

/-- 'laws.FnExactReadEpoch': WHATEVER THE INPUT: true; the input reads as it did. -/
def fnExactReadEpochSpec : ChangeSpec := { name := "fnExactReadEpoch", fn := fun _ => fun
  | [d] => { results := [.lit (.bool true)], args := [d] }
  | _ => none }
def fnExactReadEpochRow : OpenClaim := { program := "ytfokiabkebpblaa", sum := "563e89bfd948b8a716eadb1a22aa93b744497a3da15077b04c566206f2b6f172", func := "loop.example/g00250/laws.FnExactReadEpoch", spec := "fnExactReadEpoch", unfollowed := true, recurses := true, apart := false }
def FnExactReadEpochSaid : Prop := fnExactReadEpochRow.holds Try.pinned (OpenSpec.ofChange fnExactReadEpochSpec)

/-- ITS FALSE NEIGHBOUR: 'it returns false'. Refute it at one input. -/
def fnExactReadEpochWrong : ChangeSpec := { name := "fnExactReadEpoch", fn := fun _ => fun
  | [d] => { results := [.lit (.bool false)], args := [d] }
  | _ => none }
def FnExactReadEpochWrongFalsely : Prop := fnExactReadEpochRow.holds Try.pinned (OpenSpec.ofChange fnExactReadEpochWrong)

/-- 'laws.FnExactDoAct': WHATEVER THE INPUT: true; the input reads as it did. -/
def fnExactDoActSpec : ChangeSpec := { name := "fnExactDoAct", fn := fun _ => fun
  | [d1, d2] => { results := [.lit (.bool true)], args := [d1, d2] }
  | _ => none }
def fnExactDoActRow : OpenClaim := { program := "ytfokiabkebpblaa", sum := "563e89bfd948b8a716eadb1a22aa93b744497a3da15077b04c566206f2b6f172", func := "loop.example/g00250/laws.FnExactDoAct", spec := "fnExactDoAct", inPlace := ["slices.overlaps[loop.example/g00250/impl.File]"], unfollowed := true, recurses := true, apart := false }
def FnExactDoActSaid : Prop := fnExactDoActRow.holds Try.pinned (OpenSpec.ofChange fnExactDoActSpec)

/-- ITS FALSE NEIGHBOUR: 'it returns false'. Refute it at one input. -/
def fnExactDoActWrong : ChangeSpec := { name := "fnExactDoAct", fn := fun _ => fun
  | [d1, d2] => { results := [.lit (.bool false)], args := [d1, d2] }
  | _ => none }
def FnExactDoActWrongFalsely : Prop := fnExactDoActRow.holds Try.pinned (OpenSpec.ofChange fnExactDoActWrong)

/-- 'laws.FnExactDoActs': WHATEVER THE INPUT: true; the input reads as it did. -/
def fnExactDoActsSpec : ChangeSpec := { name := "fnExactDoActs", fn := fun _ => fun
  | [d1, d2] => { results := [.lit (.bool true)], args := [d1, d2] }
  | _ => none }
def fnExactDoActsRow : OpenClaim := { program := "ytfokiabkebpblaa", sum := "563e89bfd948b8a716eadb1a22aa93b744497a3da15077b04c566206f2b6f172", func := "loop.example/g00250/laws.FnExactDoActs", spec := "fnExactDoActs", inPlace := ["slices.overlaps[loop.example/g00250/impl.File]"], unfollowed := true, recurses := true, apart := false }
def FnExactDoActsSaid : Prop := fnExactDoActsRow.holds Try.pinned (OpenSpec.ofChange fnExactDoActsSpec)

/-- ITS FALSE NEIGHBOUR: 'it returns false'. Refute it at one input. -/
def fnExactDoActsWrong : ChangeSpec := { name := "fnExactDoActs", fn := fun _ => fun
  | [d1, d2] => { results := [.lit (.bool false)], args := [d1, d2] }
  | _ => none }
def FnExactDoActsWrongFalsely : Prop := fnExactDoActsRow.holds Try.pinned (OpenSpec.ofChange fnExactDoActsWrong)

/-- 'laws.FnExactCutActs': WHATEVER THE INPUT: true; the input reads as it did. -/
def fnExactCutActsSpec : ChangeSpec := { name := "fnExactCutActs", fn := fun _ => fun
  | [d1, d2, d3, d4] => { results := [.lit (.bool true)], args := [d1, d2, d3, d4] }
  | _ => none }
def fnExactCutActsRow : OpenClaim := { program := "ytfokiabkebpblaa", sum := "563e89bfd948b8a716eadb1a22aa93b744497a3da15077b04c566206f2b6f172", func := "loop.example/g00250/laws.FnExactCutActs", spec := "fnExactCutActs", inPlace := ["slices.overlaps[loop.example/g00250/impl.File]"], unfollowed := true, recurses := true, apart := false }
def FnExactCutActsSaid : Prop := fnExactCutActsRow.holds Try.pinned (OpenSpec.ofChange fnExactCutActsSpec)

/-- ITS FALSE NEIGHBOUR: 'it returns false'. Refute it at one input. -/
def fnExactCutActsWrong : ChangeSpec := { name := "fnExactCutActs", fn := fun _ => fun
  | [d1, d2, d3, d4] => { results := [.lit (.bool false)], args := [d1, d2, d3, d4] }
  | _ => none }
def FnExactCutActsWrongFalsely : Prop := fnExactCutActsRow.holds Try.pinned (OpenSpec.ofChange fnExactCutActsWrong)

/- THE SECOND FORM. 'bulk': how many values and letters a reading holds, each counted each time it is reached (what is shared counts as often as it is met; a slice's spare places count too). A statement '..UptoSaid' is the law's where the arguments, and the package variables that the reading takes, are together of bulk at most 1048576: NARROWER than '..Said'. Prove '..Said' where nothing that the law and all that it calls make is longer than what came in: it says more and counts as full. Else prove '..UptoSaid'. A law counts once. -/
mutual
def uptoBulk {H : Type} : DataW H → Nat
  | .lit (.string bytes) => bytes.length + 1
  | .lit _ => 1
  | .nil => 1
  | .ptr d => uptoBulk d + 1
  | .slice elems spare => uptoBulkAll elems + uptoBulkAll spare + 1
  | .agg parts => uptoBulkAll parts + 1
  | .iface _ d => uptoBulk d + 1
  | .map entries => uptoBulkEntries entries + 1
  | .held _ => 1
def uptoBulkAll {H : Type} : List (DataW H) → Nat
  | [] => 0
  | d :: r => uptoBulk d + uptoBulkAll r
def uptoBulkEntries {H : Type} : List (Lit × DataW H) → Nat
  | [] => 0
  | x :: r => uptoBulkEntry x + uptoBulkEntries r
def uptoBulkEntry {H : Type} : Lit × DataW H → Nat
  | (.string bytes, d) => bytes.length + uptoBulk d + 1
  | (_, d) => uptoBulk d + 1
 end
def uptoSmall : (H : Type) → List (DataW H) → Bool := fun _ ds => decide (uptoBulkAll ds ≤ 1048576)
def OpenSpec.upto (s : _root_.Go.ChangeSpec) : _root_.Go.OpenSpec := { _root_.Go.OpenSpec.ofChange s with cond := some uptoSmall }

/-- 'laws.FnExactEpochActs', WHERE WHAT IT READS IS OF BULK AT MOST 1048576: true; the input reads as it did. -/
def fnExactEpochActsUptoRow : OpenClaim := { program := "ytfokiabkebpblaa", sum := "563e89bfd948b8a716eadb1a22aa93b744497a3da15077b04c566206f2b6f172", func := "loop.example/g00250/laws.FnExactEpochActs", spec := "fnExactEpochActs", apart := false, narrowed := true }
def FnExactEpochActsUptoSaid : Prop := fnExactEpochActsUptoRow.holds Try.pinned (OpenSpec.upto fnExactEpochActsSpec)

/-- 'laws.FnExactLinkTake', WHERE WHAT IT READS IS OF BULK AT MOST 1048576: true; the input reads as it did. -/
def fnExactLinkTakeUptoRow : OpenClaim := { program := "ytfokiabkebpblaa", sum := "563e89bfd948b8a716eadb1a22aa93b744497a3da15077b04c566206f2b6f172", func := "loop.example/g00250/laws.FnExactLinkTake", spec := "fnExactLinkTake", apart := false, narrowed := true }
def FnExactLinkTakeUptoSaid : Prop := fnExactLinkTakeUptoRow.holds Try.pinned (OpenSpec.upto fnExactLinkTakeSpec)

/-- 'laws.FnExactParcelsOf', WHERE WHAT IT READS IS OF BULK AT MOST 1048576: true; the input reads as it did. -/
def fnExactParcelsOfUptoRow : OpenClaim := { program := "ytfokiabkebpblaa", sum := "563e89bfd948b8a716eadb1a22aa93b744497a3da15077b04c566206f2b6f172", func := "loop.example/g00250/laws.FnExactParcelsOf", spec := "fnExactParcelsOf", apart := false, narrowed := true }
def FnExactParcelsOfUptoSaid : Prop := fnExactParcelsOfUptoRow.holds Try.pinned (OpenSpec.upto fnExactParcelsOfSpec)

/-- 'laws.FnExactLoseDisk', WHERE WHAT IT READS IS OF BULK AT MOST 1048576: true; the input reads as it did. -/
def fnExactLoseDiskUptoRow : OpenClaim := { program := "ytfokiabkebpblaa", sum := "563e89bfd948b8a716eadb1a22aa93b744497a3da15077b04c566206f2b6f172", func := "loop.example/g00250/laws.FnExactLoseDisk", spec := "fnExactLoseDisk", apart := false, narrowed := true }
def FnExactLoseDiskUptoSaid : Prop := fnExactLoseDiskUptoRow.holds Try.pinned (OpenSpec.upto fnExactLoseDiskSpec)

/-- 'laws.FnExactReadPacket', WHERE WHAT IT READS IS OF BULK AT MOST 1048576: true; the input reads as it did. -/
def fnExactReadPacketUptoRow : OpenClaim := { program := "ytfokiabkebpblaa", sum := "563e89bfd948b8a716eadb1a22aa93b744497a3da15077b04c566206f2b6f172", func := "loop.example/g00250/laws.FnExactReadPacket", spec := "fnExactReadPacket", apart := false, narrowed := true }
def FnExactReadPacketUptoSaid : Prop := fnExactReadPacketUptoRow.holds Try.pinned (OpenSpec.upto fnExactReadPacketSpec)

/-- 'laws.FnExactPairDone', WHERE WHAT IT READS IS OF BULK AT MOST 1048576: true; the input reads as it did. -/
def fnExactPairDoneUptoRow : OpenClaim := { program := "ytfokiabkebpblaa", sum := "563e89bfd948b8a716eadb1a22aa93b744497a3da15077b04c566206f2b6f172", func := "loop.example/g00250/laws.FnExactPairDone", spec := "fnExactPairDone", apart := false, narrowed := true }
def FnExactPairDoneUptoSaid : Prop := fnExactPairDoneUptoRow.holds Try.pinned (OpenSpec.upto fnExactPairDoneSpec)

/-- 'laws.FnExactPairRight', WHERE WHAT IT READS IS OF BULK AT MOST 1048576: true; the input reads as it did. -/
def fnExactPairRightUptoRow : OpenClaim := { program := "ytfokiabkebpblaa", sum := "563e89bfd948b8a716eadb1a22aa93b744497a3da15077b04c566206f2b6f172", func := "loop.example/g00250/laws.FnExactPairRight", spec := "fnExactPairRight", apart := false, narrowed := true }
def FnExactPairRightUptoSaid : Prop := fnExactPairRightUptoRow.holds Try.pinned (OpenSpec.upto fnExactPairRightSpec)

/-- 'laws.FnExactLinkPackets', WHERE WHAT IT READS IS OF BULK AT MOST 1048576: true; the input reads as it did. -/
def fnExactLinkPacketsUptoRow : OpenClaim := { program := "ytfokiabkebpblaa", sum := "563e89bfd948b8a716eadb1a22aa93b744497a3da15077b04c566206f2b6f172", func := "loop.example/g00250/laws.FnExactLinkPackets", spec := "fnExactLinkPackets", apart := false, narrowed := true }
def FnExactLinkPacketsUptoSaid : Prop := fnExactLinkPacketsUptoRow.holds Try.pinned (OpenSpec.upto fnExactLinkPacketsSpec)

/-- 'laws.FnExactReadEpoch', WHERE WHAT IT READS IS OF BULK AT MOST 1048576: true; the input reads as it did. -/
def fnExactReadEpochUptoRow : OpenClaim := { program := "ytfokiabkebpblaa", sum := "563e89bfd948b8a716eadb1a22aa93b744497a3da15077b04c566206f2b6f172", func := "loop.example/g00250/laws.FnExactReadEpoch", spec := "fnExactReadEpoch", unfollowed := true, recurses := true, apart := false, narrowed := true }
def FnExactReadEpochUptoSaid : Prop := fnExactReadEpochUptoRow.holds Try.pinned (OpenSpec.upto fnExactReadEpochSpec)

/-- 'laws.FnExactDoAct', WHERE WHAT IT READS IS OF BULK AT MOST 1048576: true; the input reads as it did. -/
def fnExactDoActUptoRow : OpenClaim := { program := "ytfokiabkebpblaa", sum := "563e89bfd948b8a716eadb1a22aa93b744497a3da15077b04c566206f2b6f172", func := "loop.example/g00250/laws.FnExactDoAct", spec := "fnExactDoAct", inPlace := ["slices.overlaps[loop.example/g00250/impl.File]"], unfollowed := true, recurses := true, apart := false, narrowed := true }
def FnExactDoActUptoSaid : Prop := fnExactDoActUptoRow.holds Try.pinned (OpenSpec.upto fnExactDoActSpec)

/-- 'laws.FnExactDoActs', WHERE WHAT IT READS IS OF BULK AT MOST 1048576: true; the input reads as it did. -/
def fnExactDoActsUptoRow : OpenClaim := { program := "ytfokiabkebpblaa", sum := "563e89bfd948b8a716eadb1a22aa93b744497a3da15077b04c566206f2b6f172", func := "loop.example/g00250/laws.FnExactDoActs", spec := "fnExactDoActs", inPlace := ["slices.overlaps[loop.example/g00250/impl.File]"], unfollowed := true, recurses := true, apart := false, narrowed := true }
def FnExactDoActsUptoSaid : Prop := fnExactDoActsUptoRow.holds Try.pinned (OpenSpec.upto fnExactDoActsSpec)

/-- 'laws.FnExactCutActs', WHERE WHAT IT READS IS OF BULK AT MOST 1048576: true; the input reads as it did. -/
def fnExactCutActsUptoRow : OpenClaim := { program := "ytfokiabkebpblaa", sum := "563e89bfd948b8a716eadb1a22aa93b744497a3da15077b04c566206f2b6f172", func := "loop.example/g00250/laws.FnExactCutActs", spec := "fnExactCutActs", inPlace := ["slices.overlaps[loop.example/g00250/impl.File]"], unfollowed := true, recurses := true, apart := false, narrowed := true }
def FnExactCutActsUptoSaid : Prop := fnExactCutActsUptoRow.holds Try.pinned (OpenSpec.upto fnExactCutActsSpec)

end Rows
end Go.Proofs.Ytfokiabkebpblaa
