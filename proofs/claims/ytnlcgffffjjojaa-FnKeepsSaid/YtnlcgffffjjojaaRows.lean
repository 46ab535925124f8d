/-
  No cell of these rows narrows 'for every input' (looked for: loops, veiled, ifaces, maps, wideKeys, modest, calm, conditions, laid).
  DERIVED. THE GIVEN ROWS OF THIS SEAT. 12 by the template 'for every input the law returns true; each argument reads behind the call as it read before'; 0 by the template 'total and deterministic' (their statements: YtnlcgffffjjojaaTotals.lean).
  GIVEN WITH THE SEED: the statements are not yours to turn. If you find one false, say at which input.
  Laid BY PROGRAM, IN A SANDBOX (cutbox-rows.mjs): the forced cells as the released guide's own fill.sh prints them over the translation 0154f5c87c855ee1… (all of the seat's roots in one cut). By AI agents, Wed Nov 11 2026. No macro, syntax, notation, axiom, sorry.
-/
import Derived.Test.YtnlcgffffjjojaaChecked
import GoSem.Claim
import GoSem.ClaimJoined
import GoSem.ClaimMapViews
import Derived.JoinedTies
import Derived.KernelRfl
namespace Go.Proofs.Ytnlcgffffjjojaa
/- THE CELL 'sum', in the pinned program and in every row, IS THE sha256 OF THE DUMP (.gsa) THAT YtnlcgffffjjojaaProg.lean LOADS. Nothing in Lean hashes anything: it is a label: what it is worth is what the hold of that sum in a sandbox is worth. -/
noncomputable def Try.pinned : Pinned := { name := "ytnlcgffffjjojaa", sum := "0154f5c87c855ee1b7be87cb15054214cdf086a609b18cacefecde23b1f0b419", checked := Try.checked }
namespace Rows
def none {H : Type} : Left H := { results := [], args := [] }

/-- 'laws.FnExactPacketText': WHATEVER THE INPUT: true; the input reads as it did. -/
def fnExactPacketTextSpec : ChangeSpec := { name := "fnExactPacketText", fn := fun _ => fun
  | [d] => { results := [.lit (.bool true)], args := [d] }
  | _ => none }
def fnExactPacketTextRow : OpenClaim := { program := "ytnlcgffffjjojaa", sum := "0154f5c87c855ee1b7be87cb15054214cdf086a609b18cacefecde23b1f0b419", func := "loop.example/g00250/laws.FnExactPacketText", spec := "fnExactPacketText", apart := false }
def FnExactPacketTextSaid : Prop := fnExactPacketTextRow.holds Try.pinned (OpenSpec.ofChange fnExactPacketTextSpec)

/-- ITS FALSE NEIGHBOUR: 'it returns false'. Refute it at one input. -/
def fnExactPacketTextWrong : ChangeSpec := { name := "fnExactPacketText", fn := fun _ => fun
  | [d] => { results := [.lit (.bool false)], args := [d] }
  | _ => none }
def FnExactPacketTextWrongFalsely : Prop := fnExactPacketTextRow.holds Try.pinned (OpenSpec.ofChange fnExactPacketTextWrong)

/-- 'laws.FnKeeps': WHATEVER THE INPUT: true; the input reads as it did. -/
def fnKeepsSpec : ChangeSpec := { name := "fnKeeps", fn := fun _ => fun
  | [d] => { results := [.lit (.bool true)], args := [d] }
  | _ => none }
def fnKeepsRow : OpenClaim := { program := "ytnlcgffffjjojaa", sum := "0154f5c87c855ee1b7be87cb15054214cdf086a609b18cacefecde23b1f0b419", func := "loop.example/g00250/laws.FnKeeps", spec := "fnKeeps", apart := false }
def FnKeepsSaid : Prop := fnKeepsRow.holds Try.pinned (OpenSpec.ofChange fnKeepsSpec)

/-- ITS FALSE NEIGHBOUR: 'it returns false'. Refute it at one input. -/
def fnKeepsWrong : ChangeSpec := { name := "fnKeeps", fn := fun _ => fun
  | [d] => { results := [.lit (.bool false)], args := [d] }
  | _ => none }
def FnKeepsWrongFalsely : Prop := fnKeepsRow.holds Try.pinned (OpenSpec.ofChange fnKeepsWrong)

/-- 'laws.FnFrames': WHATEVER THE INPUT: true; the input reads as it did. -/
def fnFramesSpec : ChangeSpec := { name := "fnFrames", fn := fun _ => fun
  | [d] => { results := [.lit (.bool true)], args := [d] }
  | _ => none }
def fnFramesRow : OpenClaim := { program := "ytnlcgffffjjojaa", sum := "0154f5c87c855ee1b7be87cb15054214cdf086a609b18cacefecde23b1f0b419", func := "loop.example/g00250/laws.FnFrames", spec := "fnFrames", apart := false }
def FnFramesSaid : Prop := fnFramesRow.holds Try.pinned (OpenSpec.ofChange fnFramesSpec)

/-- ITS FALSE NEIGHBOUR: 'it returns false'. Refute it at one input. -/
def fnFramesWrong : ChangeSpec := { name := "fnFrames", fn := fun _ => fun
  | [d] => { results := [.lit (.bool false)], args := [d] }
  | _ => none }
def FnFramesWrongFalsely : Prop := fnFramesRow.holds Try.pinned (OpenSpec.ofChange fnFramesWrong)

/-- 'laws.FnLinks': WHATEVER THE INPUT: true; the input reads as it did. -/
def fnLinksSpec : ChangeSpec := { name := "fnLinks", fn := fun _ => fun
  | [d] => { results := [.lit (.bool true)], args := [d] }
  | _ => none }
def fnLinksRow : OpenClaim := { program := "ytnlcgffffjjojaa", sum := "0154f5c87c855ee1b7be87cb15054214cdf086a609b18cacefecde23b1f0b419", func := "loop.example/g00250/laws.FnLinks", spec := "fnLinks", apart := false }
def FnLinksSaid : Prop := fnLinksRow.holds Try.pinned (OpenSpec.ofChange fnLinksSpec)

/-- ITS FALSE NEIGHBOUR: 'it returns false'. Refute it at one input. -/
def fnLinksWrong : ChangeSpec := { name := "fnLinks", fn := fun _ => fun
  | [d] => { results := [.lit (.bool false)], args := [d] }
  | _ => none }
def FnLinksWrongFalsely : Prop := fnLinksRow.holds Try.pinned (OpenSpec.ofChange fnLinksWrong)

/-- 'laws.FnLinksTold': WHATEVER THE INPUT: true; the input reads as it did. -/
def fnLinksToldSpec : ChangeSpec := { name := "fnLinksTold", fn := fun _ => fun
  | [d] => { results := [.lit (.bool true)], args := [d] }
  | _ => none }
def fnLinksToldRow : OpenClaim := { program := "ytnlcgffffjjojaa", sum := "0154f5c87c855ee1b7be87cb15054214cdf086a609b18cacefecde23b1f0b419", func := "loop.example/g00250/laws.FnLinksTold", spec := "fnLinksTold", apart := false }
def FnLinksToldSaid : Prop := fnLinksToldRow.holds Try.pinned (OpenSpec.ofChange fnLinksToldSpec)

/-- ITS FALSE NEIGHBOUR: 'it returns false'. Refute it at one input. -/
def fnLinksToldWrong : ChangeSpec := { name := "fnLinksTold", fn := fun _ => fun
  | [d] => { results := [.lit (.bool false)], args := [d] }
  | _ => none }
def FnLinksToldWrongFalsely : Prop := fnLinksToldRow.holds Try.pinned (OpenSpec.ofChange fnLinksToldWrong)

/-- 'laws.FnPackets': WHATEVER THE INPUT: true; the input reads as it did. -/
def fnPacketsSpec : ChangeSpec := { name := "fnPackets", fn := fun _ => fun
  | [d] => { results := [.lit (.bool true)], args := [d] }
  | _ => none }
def fnPacketsRow : OpenClaim := { program := "ytnlcgffffjjojaa", sum := "0154f5c87c855ee1b7be87cb15054214cdf086a609b18cacefecde23b1f0b419", func := "loop.example/g00250/laws.FnPackets", spec := "fnPackets", apart := false }
def FnPacketsSaid : Prop := fnPacketsRow.holds Try.pinned (OpenSpec.ofChange fnPacketsSpec)

/-- ITS FALSE NEIGHBOUR: 'it returns false'. Refute it at one input. -/
def fnPacketsWrong : ChangeSpec := { name := "fnPackets", fn := fun _ => fun
  | [d] => { results := [.lit (.bool false)], args := [d] }
  | _ => none }
def FnPacketsWrongFalsely : Prop := fnPacketsRow.holds Try.pinned (OpenSpec.ofChange fnPacketsWrong)

/-- 'laws.FnExactLetterOk': WHATEVER THE INPUT: true; the input reads as it did. -/
def fnExactLetterOkSpec : ChangeSpec := { name := "fnExactLetterOk", fn := fun _ => fun
  | [d] => { results := [.lit (.bool true)], args := [d] }
  | _ => none }
def fnExactLetterOkRow : OpenClaim := { program := "ytnlcgffffjjojaa", sum := "0154f5c87c855ee1b7be87cb15054214cdf086a609b18cacefecde23b1f0b419", func := "loop.example/g00250/laws.FnExactLetterOk", spec := "fnExactLetterOk", apart := false }
def FnExactLetterOkSaid : Prop := fnExactLetterOkRow.holds Try.pinned (OpenSpec.ofChange fnExactLetterOkSpec)

/-- ITS FALSE NEIGHBOUR: 'it returns false'. Refute it at one input. -/
def fnExactLetterOkWrong : ChangeSpec := { name := "fnExactLetterOk", fn := fun _ => fun
  | [d] => { results := [.lit (.bool false)], args := [d] }
  | _ => none }
def FnExactLetterOkWrongFalsely : Prop := fnExactLetterOkRow.holds Try.pinned (OpenSpec.ofChange fnExactLetterOkWrong)

/-- 'laws.FnExactPartActs': WHATEVER THE INPUT: true; the input reads as it did. -/
def fnExactPartActsSpec : ChangeSpec := { name := "fnExactPartActs", fn := fun _ => fun
  | [d] => { results := [.lit (.bool true)], args := [d] }
  | _ => none }
def fnExactPartActsRow : OpenClaim := { program := "ytnlcgffffjjojaa", sum := "0154f5c87c855ee1b7be87cb15054214cdf086a609b18cacefecde23b1f0b419", func := "loop.example/g00250/laws.FnExactPartActs", spec := "fnExactPartActs", inPlace := ["internal/abi.NoEscape"], apart := false }
def FnExactPartActsSaid : Prop := fnExactPartActsRow.holds Try.pinned (OpenSpec.ofChange fnExactPartActsSpec)

/-- ITS FALSE NEIGHBOUR: 'it returns false'. Refute it at one input. -/
def fnExactPartActsWrong : ChangeSpec := { name := "fnExactPartActs", fn := fun _ => fun
  | [d] => { results := [.lit (.bool false)], args := [d] }
  | _ => none }
def FnExactPartActsWrongFalsely : Prop := fnExactPartActsRow.holds Try.pinned (OpenSpec.ofChange fnExactPartActsWrong)

/-- 'laws.FnExactLetterText': WHATEVER THE INPUT: true; the input reads as it did. -/
def fnExactLetterTextSpec : ChangeSpec := { name := "fnExactLetterText", fn := fun _ => fun
  | [d] => { results := [.lit (.bool true)], args := [d] }
  | _ => none }
def fnExactLetterTextRow : OpenClaim := { program := "ytnlcgffffjjojaa", sum := "0154f5c87c855ee1b7be87cb15054214cdf086a609b18cacefecde23b1f0b419", func := "loop.example/g00250/laws.FnExactLetterText", spec := "fnExactLetterText", inPlace := ["internal/abi.NoEscape"], apart := false }
def FnExactLetterTextSaid : Prop := fnExactLetterTextRow.holds Try.pinned (OpenSpec.ofChange fnExactLetterTextSpec)

/-- ITS FALSE NEIGHBOUR: 'it returns false'. Refute it at one input. -/
def fnExactLetterTextWrong : ChangeSpec := { name := "fnExactLetterText", fn := fun _ => fun
  | [d] => { results := [.lit (.bool false)], args := [d] }
  | _ => none }
def FnExactLetterTextWrongFalsely : Prop := fnExactLetterTextRow.holds Try.pinned (OpenSpec.ofChange fnExactLetterTextWrong)

/-- 'laws.FnActs': WHATEVER THE INPUT: true; the input reads as it did. -/
def fnActsSpec : ChangeSpec := { name := "fnActs", fn := fun _ => fun
  | [d] => { results := [.lit (.bool true)], args := [d] }
  | _ => none }
def fnActsRow : OpenClaim := { program := "ytnlcgffffjjojaa", sum := "0154f5c87c855ee1b7be87cb15054214cdf086a609b18cacefecde23b1f0b419", func := "loop.example/g00250/laws.FnActs", spec := "fnActs", inPlace := ["slices.overlaps[loop.example/g00250/impl.File]"], unfollowed := true, recurses := true, apart := false }
def FnActsSaid : Prop := fnActsRow.holds Try.pinned (OpenSpec.ofChange fnActsSpec)

/-- ITS FALSE NEIGHBOUR: 'it returns false'. Refute it at one input. -/
def fnActsWrong : ChangeSpec := { name := "fnActs", fn := fun _ => fun
  | [d] => { results := [.lit (.bool false)], args := [d] }
  | _ => none }
def FnActsWrongFalsely : Prop := fnActsRow.holds Try.pinned (OpenSpec.ofChange fnActsWrong)

/-- 'laws.FnExactReadLetter': WHATEVER THE INPUT: true; the input reads as it did. -/
def fnExactReadLetterSpec : ChangeSpec := { name := "fnExactReadLetter", fn := fun _ => fun
  | [d] => { results := [.lit (.bool true)], args := [d] }
  | _ => none }
def fnExactReadLetterRow : OpenClaim := { program := "ytnlcgffffjjojaa", sum := "0154f5c87c855ee1b7be87cb15054214cdf086a609b18cacefecde23b1f0b419", func := "loop.example/g00250/laws.FnExactReadLetter", spec := "fnExactReadLetter", inPlace := ["internal/abi.NoEscape"], apart := false }
def FnExactReadLetterSaid : Prop := fnExactReadLetterRow.holds Try.pinned (OpenSpec.ofChange fnExactReadLetterSpec)

/-- ITS FALSE NEIGHBOUR: 'it returns false'. Refute it at one input. -/
def fnExactReadLetterWrong : ChangeSpec := { name := "fnExactReadLetter", fn := fun _ => fun
  | [d] => { results := [.lit (.bool false)], args := [d] }
  | _ => none }
def FnExactReadLetterWrongFalsely : Prop := fnExactReadLetterRow.holds Try.pinned (OpenSpec.ofChange fnExactReadLetterWrong)

/-- 'laws.FnExactReadPart': WHATEVER THE INPUT: true; the input reads as it did. -/
def fnExactReadPartSpec : ChangeSpec := { name := "fnExactReadPart", fn := fun _ => fun
  | [d] => { results := [.lit (.bool true)], args := [d] }
  | _ => none }
def fnExactReadPartRow : OpenClaim := { program := "ytnlcgffffjjojaa", sum := "0154f5c87c855ee1b7be87cb15054214cdf086a609b18cacefecde23b1f0b419", func := "loop.example/g00250/laws.FnExactReadPart", spec := "fnExactReadPart", unfollowed := true, recurses := true, apart := false }
def FnExactReadPartSaid : Prop := fnExactReadPartRow.holds Try.pinned (OpenSpec.ofChange fnExactReadPartSpec)

/-- ITS FALSE NEIGHBOUR: 'it returns false'. Refute it at one input. -/
def fnExactReadPartWrong : ChangeSpec := { name := "fnExactReadPart", fn := fun _ => fun
  | [d] => { results := [.lit (.bool false)], args := [d] }
  | _ => none }
def FnExactReadPartWrongFalsely : Prop := fnExactReadPartRow.holds Try.pinned (OpenSpec.ofChange fnExactReadPartWrong)

/- THE SECOND FORM. 'bulk': how many values and letters a reading holds, each counted each time it is reached (what is shared counts as often as it is met; a slice's spare places count too). A statement '..UptoSaid' is the law's where the arguments, and the package variables that the reading takes, are together of bulk at most 1048576: NARROWER than '..Said'. Prove '..Said' where nothing that the law and all that it calls make is longer than what came in: it says more and counts as full. Else prove '..UptoSaid'. A law counts once. -/
mutual
def uptoBulk {H : Type} : DataW H → Nat
  | .lit (.string bytes) => bytes.length + 1
  | .lit _ => 1
  | .nil => 1
  | .ptr d => uptoBulk d + 1
  | .slice elems spare => uptoBulkAll elems + uptoBulkAll spare + 1
  | .agg parts => uptoBulkAll parts + 1
  | .iface _ d => uptoBulk d + 1
  | .map entries => uptoBulkEntries entries + 1
  | .held _ => 1
def uptoBulkAll {H : Type} : List (DataW H) → Nat
  | [] => 0
  | d :: r => uptoBulk d + uptoBulkAll r
def uptoBulkEntries {H : Type} : List (Lit × DataW H) → Nat
  | [] => 0
  | x :: r => uptoBulkEntry x + uptoBulkEntries r
def uptoBulkEntry {H : Type} : Lit × DataW H → Nat
  | (.string bytes, d) => bytes.length + uptoBulk d + 1
  | (_, d) => uptoBulk d + 1
 end
def uptoSmall : (H : Type) → List (DataW H) → Bool := fun _ ds => decide (uptoBulkAll ds ≤ 1048576)
def OpenSpec.upto (s : _root_.Go.ChangeSpec) : _root_.Go.OpenSpec := { _root_.Go.OpenSpec.ofChange s with cond := some uptoSmall }

/-- 'laws.FnExactPacketText', WHERE WHAT IT READS IS OF BULK AT MOST 1048576: true; the input reads as it did. -/
def fnExactPacketTextUptoRow : OpenClaim := { program := "ytnlcgffffjjojaa", sum := "0154f5c87c855ee1b7be87cb15054214cdf086a609b18cacefecde23b1f0b419", func := "loop.example/g00250/laws.FnExactPacketText", spec := "fnExactPacketText", apart := false, narrowed := true }
def FnExactPacketTextUptoSaid : Prop := fnExactPacketTextUptoRow.holds Try.pinned (OpenSpec.upto fnExactPacketTextSpec)

/-- 'laws.FnKeeps', WHERE WHAT IT READS IS OF BULK AT MOST 1048576: true; the input reads as it did. -/
def fnKeepsUptoRow : OpenClaim := { program := "ytnlcgffffjjojaa", sum := "0154f5c87c855ee1b7be87cb15054214cdf086a609b18cacefecde23b1f0b419", func := "loop.example/g00250/laws.FnKeeps", spec := "fnKeeps", apart := false, narrowed := true }
def FnKeepsUptoSaid : Prop := fnKeepsUptoRow.holds Try.pinned (OpenSpec.upto fnKeepsSpec)

/-- 'laws.FnFrames', WHERE WHAT IT READS IS OF BULK AT MOST 1048576: true; the input reads as it did. -/
def fnFramesUptoRow : OpenClaim := { program := "ytnlcgffffjjojaa", sum := "0154f5c87c855ee1b7be87cb15054214cdf086a609b18cacefecde23b1f0b419", func := "loop.example/g00250/laws.FnFrames", spec := "fnFrames", apart := false, narrowed := true }
def FnFramesUptoSaid : Prop := fnFramesUptoRow.holds Try.pinned (OpenSpec.upto fnFramesSpec)

/-- 'laws.FnLinks', WHERE WHAT IT READS IS OF BULK AT MOST 1048576: true; the input reads as it did. -/
def fnLinksUptoRow : OpenClaim := { program := "ytnlcgffffjjojaa", sum := "0154f5c87c855ee1b7be87cb15054214cdf086a609b18cacefecde23b1f0b419", func := "loop.example/g00250/laws.FnLinks", spec := "fnLinks", apart := false, narrowed := true }
def FnLinksUptoSaid : Prop := fnLinksUptoRow.holds Try.pinned (OpenSpec.upto fnLinksSpec)

/-- 'laws.FnLinksTold', WHERE WHAT IT READS IS OF BULK AT MOST 1048576: true; the input reads as it did. -/
def fnLinksToldUptoRow : OpenClaim := { program := "ytnlcgffffjjojaa", sum := "0154f5c87c855ee1b7be87cb15054214cdf086a609b18cacefecde23b1f0b419", func := "loop.example/g00250/laws.FnLinksTold", spec := "fnLinksTold", apart := false, narrowed := true }
def FnLinksToldUptoSaid : Prop := fnLinksToldUptoRow.holds Try.pinned (OpenSpec.upto fnLinksToldSpec)

/-- 'laws.FnPackets', WHERE WHAT IT READS IS OF BULK AT MOST 1048576: true; the input reads as it did. -/
def fnPacketsUptoRow : OpenClaim := { program := "ytnlcgffffjjojaa", sum := "0154f5c87c855ee1b7be87cb15054214cdf086a609b18cacefecde23b1f0b419", func := "loop.example/g00250/laws.FnPackets", spec := "fnPackets", apart := false, narrowed := true }
def FnPacketsUptoSaid : Prop := fnPacketsUptoRow.holds Try.pinned (OpenSpec.upto fnPacketsSpec)

/-- 'laws.FnExactLetterOk', WHERE WHAT IT READS IS OF BULK AT MOST 1048576: true; the input reads as it did. -/
def fnExactLetterOkUptoRow : OpenClaim := { program := "ytnlcgffffjjojaa", sum := "0154f5c87c855ee1b7be87cb15054214cdf086a609b18cacefecde23b1f0b419", func := "loop.example/g00250/laws.FnExactLetterOk", spec := "fnExactLetterOk", apart := false, narrowed := true }
def FnExactLetterOkUptoSaid : Prop := fnExactLetterOkUptoRow.holds Try.pinned (OpenSpec.upto fnExactLetterOkSpec)

/-- 'laws.FnExactPartActs', WHERE WHAT IT READS IS OF BULK AT MOST 1048576: true; the input reads as it did. -/
def fnExactPartActsUptoRow : OpenClaim := { program := "ytnlcgffffjjojaa", sum := "0154f5c87c855ee1b7be87cb15054214cdf086a609b18cacefecde23b1f0b419", func := "loop.example/g00250/laws.FnExactPartActs", spec := "fnExactPartActs", inPlace := ["internal/abi.NoEscape"], apart := false, narrowed := true }
def FnExactPartActsUptoSaid : Prop := fnExactPartActsUptoRow.holds Try.pinned (OpenSpec.upto fnExactPartActsSpec)

/-- 'laws.FnExactLetterText', WHERE WHAT IT READS IS OF BULK AT MOST 1048576: true; the input reads as it did. -/
def fnExactLetterTextUptoRow : OpenClaim := { program := "ytnlcgffffjjojaa", sum := "0154f5c87c855ee1b7be87cb15054214cdf086a609b18cacefecde23b1f0b419", func := "loop.example/g00250/laws.FnExactLetterText", spec := "fnExactLetterText", inPlace := ["internal/abi.NoEscape"], apart := false, narrowed := true }
def FnExactLetterTextUptoSaid : Prop := fnExactLetterTextUptoRow.holds Try.pinned (OpenSpec.upto fnExactLetterTextSpec)

/-- 'laws.FnActs', WHERE WHAT IT READS IS OF BULK AT MOST 1048576: true; the input reads as it did. -/
def fnActsUptoRow : OpenClaim := { program := "ytnlcgffffjjojaa", sum := "0154f5c87c855ee1b7be87cb15054214cdf086a609b18cacefecde23b1f0b419", func := "loop.example/g00250/laws.FnActs", spec := "fnActs", inPlace := ["slices.overlaps[loop.example/g00250/impl.File]"], unfollowed := true, recurses := true, apart := false, narrowed := true }
def FnActsUptoSaid : Prop := fnActsUptoRow.holds Try.pinned (OpenSpec.upto fnActsSpec)

/-- 'laws.FnExactReadLetter', WHERE WHAT IT READS IS OF BULK AT MOST 1048576: true; the input reads as it did. -/
def fnExactReadLetterUptoRow : OpenClaim := { program := "ytnlcgffffjjojaa", sum := "0154f5c87c855ee1b7be87cb15054214cdf086a609b18cacefecde23b1f0b419", func := "loop.example/g00250/laws.FnExactReadLetter", spec := "fnExactReadLetter", inPlace := ["internal/abi.NoEscape"], apart := false, narrowed := true }
def FnExactReadLetterUptoSaid : Prop := fnExactReadLetterUptoRow.holds Try.pinned (OpenSpec.upto fnExactReadLetterSpec)

/-- 'laws.FnExactReadPart', WHERE WHAT IT READS IS OF BULK AT MOST 1048576: true; the input reads as it did. -/
def fnExactReadPartUptoRow : OpenClaim := { program := "ytnlcgffffjjojaa", sum := "0154f5c87c855ee1b7be87cb15054214cdf086a609b18cacefecde23b1f0b419", func := "loop.example/g00250/laws.FnExactReadPart", spec := "fnExactReadPart", unfollowed := true, recurses := true, apart := false, narrowed := true }
def FnExactReadPartUptoSaid : Prop := fnExactReadPartUptoRow.holds Try.pinned (OpenSpec.upto fnExactReadPartSpec)

end Rows
end Go.Proofs.Ytnlcgffffjjojaa
