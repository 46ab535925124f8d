/-
  No cell of these rows narrows 'for every input' (looked for: loops, veiled, ifaces, maps, wideKeys, modest, calm, conditions, laid).
  DERIVED. THE GIVEN ROWS OF THIS SEAT. 8 by the template 'for every input the law returns true; each argument reads behind the call as it read before'; 0 by the template 'total and deterministic' (their statements: YtmdgdnkllclpcaaGreatTotals.lean).
  GIVEN WITH THE SEED: the statements are not yours to turn. If you find one false, say at which input.
  Laid BY PROGRAM, IN A SANDBOX (cutbox-rows.mjs): the forced cells as the released guide's own fill.sh prints them over the translation d49733ebdbf4a313… (all of the seat's roots in one cut). By AI agents, Wed Nov 11 2026. No macro, syntax, notation, axiom, sorry.
-/
import Derived.Test.YtmdgdnkllclpcaaGreatChecked
import GoSem.Claim
import GoSem.ClaimJoined
import GoSem.ClaimMapViews
import Derived.JoinedTies
import Derived.KernelRfl
namespace Go.Proofs.YtmdgdnkllclpcaaGreat
/- THE CELL 'sum', in the pinned program and in every row, IS THE sha256 OF THE DUMP (.gsa) THAT YtmdgdnkllclpcaaGreatProg.lean LOADS. Nothing in Lean hashes anything: it is a label: what it is worth is what the hold of that sum in a sandbox is worth. -/
noncomputable def Tryz.pinned : Pinned := { name := "ytmdgdnkllclpcaagreat", sum := "d49733ebdbf4a3133d2f9369f7f835c574325ce1c549abbb43abe435023f419a", checked := Tryz.checked }
namespace Rows
def none {H : Type} : Left H := { results := [], args := [] }

/-- 'laws.FnExactPairsIn': WHATEVER THE INPUT: true; the input reads as it did. -/
def fnExactPairsInSpec : ChangeSpec := { name := "fnExactPairsIn", fn := fun _ => fun
  | [d1, d2, d3] => { results := [.lit (.bool true)], args := [d1, d2, d3] }
  | _ => none }
def fnExactPairsInRow : OpenClaim := { program := "ytmdgdnkllclpcaagreat", sum := "d49733ebdbf4a3133d2f9369f7f835c574325ce1c549abbb43abe435023f419a", func := "loop.example/g00250/laws.FnExactPairsIn", spec := "fnExactPairsIn", unfollowed := true, recurses := true, plainKeys := false, apart := false }
def FnExactPairsInSaid : Prop := fnExactPairsInRow.holds Tryz.pinned (OpenSpec.ofChange fnExactPairsInSpec)

/-- ITS FALSE NEIGHBOUR: 'it returns false'. Refute it at one input. -/
def fnExactPairsInWrong : ChangeSpec := { name := "fnExactPairsIn", fn := fun _ => fun
  | [d1, d2, d3] => { results := [.lit (.bool false)], args := [d1, d2, d3] }
  | _ => none }
def FnExactPairsInWrongFalsely : Prop := fnExactPairsInRow.holds Tryz.pinned (OpenSpec.ofChange fnExactPairsInWrong)

/-- 'laws.FnExactWalksOn': WHATEVER THE INPUT: true; the input reads as it did. -/
def fnExactWalksOnSpec : ChangeSpec := { name := "fnExactWalksOn", fn := fun _ => fun
  | [d1, d2, d3] => { results := [.lit (.bool true)], args := [d1, d2, d3] }
  | _ => none }
def fnExactWalksOnRow : OpenClaim := { program := "ytmdgdnkllclpcaagreat", sum := "d49733ebdbf4a3133d2f9369f7f835c574325ce1c549abbb43abe435023f419a", func := "loop.example/g00250/laws.FnExactWalksOn", spec := "fnExactWalksOn", unfollowed := true, recurses := true, plainKeys := false, apart := false }
def FnExactWalksOnSaid : Prop := fnExactWalksOnRow.holds Tryz.pinned (OpenSpec.ofChange fnExactWalksOnSpec)

/-- ITS FALSE NEIGHBOUR: 'it returns false'. Refute it at one input. -/
def fnExactWalksOnWrong : ChangeSpec := { name := "fnExactWalksOn", fn := fun _ => fun
  | [d1, d2, d3] => { results := [.lit (.bool false)], args := [d1, d2, d3] }
  | _ => none }
def FnExactWalksOnWrongFalsely : Prop := fnExactWalksOnRow.holds Tryz.pinned (OpenSpec.ofChange fnExactWalksOnWrong)

/-- 'laws.FnExactStartWalks': WHATEVER THE INPUT: true; the input reads as it did. -/
def fnExactStartWalksSpec : ChangeSpec := { name := "fnExactStartWalks", fn := fun _ => fun
  | [d1, d2, d3, d4] => { results := [.lit (.bool true)], args := [d1, d2, d3, d4] }
  | _ => none }
def fnExactStartWalksRow : OpenClaim := { program := "ytmdgdnkllclpcaagreat", sum := "d49733ebdbf4a3133d2f9369f7f835c574325ce1c549abbb43abe435023f419a", func := "loop.example/g00250/laws.FnExactStartWalks", spec := "fnExactStartWalks", unfollowed := true, recurses := true, plainKeys := false, apart := false }
def FnExactStartWalksSaid : Prop := fnExactStartWalksRow.holds Tryz.pinned (OpenSpec.ofChange fnExactStartWalksSpec)

/-- ITS FALSE NEIGHBOUR: 'it returns false'. Refute it at one input. -/
def fnExactStartWalksWrong : ChangeSpec := { name := "fnExactStartWalks", fn := fun _ => fun
  | [d1, d2, d3, d4] => { results := [.lit (.bool false)], args := [d1, d2, d3, d4] }
  | _ => none }
def FnExactStartWalksWrongFalsely : Prop := fnExactStartWalksRow.holds Tryz.pinned (OpenSpec.ofChange fnExactStartWalksWrong)

/-- 'laws.FnExactTakeWalks': WHATEVER THE INPUT: true; the input reads as it did. -/
def fnExactTakeWalksSpec : ChangeSpec := { name := "fnExactTakeWalks", fn := fun _ => fun
  | [d1, d2, d3, d4, d5, d6] => { results := [.lit (.bool true)], args := [d1, d2, d3, d4, d5, d6] }
  | _ => none }
def fnExactTakeWalksRow : OpenClaim := { program := "ytmdgdnkllclpcaagreat", sum := "d49733ebdbf4a3133d2f9369f7f835c574325ce1c549abbb43abe435023f419a", func := "loop.example/g00250/laws.FnExactTakeWalks", spec := "fnExactTakeWalks", unfollowed := true, recurses := true, plainKeys := false, apart := false }
def FnExactTakeWalksSaid : Prop := fnExactTakeWalksRow.holds Tryz.pinned (OpenSpec.ofChange fnExactTakeWalksSpec)

/-- ITS FALSE NEIGHBOUR: 'it returns false'. Refute it at one input. -/
def fnExactTakeWalksWrong : ChangeSpec := { name := "fnExactTakeWalks", fn := fun _ => fun
  | [d1, d2, d3, d4, d5, d6] => { results := [.lit (.bool false)], args := [d1, d2, d3, d4, d5, d6] }
  | _ => none }
def FnExactTakeWalksWrongFalsely : Prop := fnExactTakeWalksRow.holds Tryz.pinned (OpenSpec.ofChange fnExactTakeWalksWrong)

/-- 'laws.FnExactTruePairs': WHATEVER THE INPUT: true; the input reads as it did. -/
def fnExactTruePairsSpec : ChangeSpec := { name := "fnExactTruePairs", fn := fun _ => fun
  | [d1, d2, d3, d4, d5] => { results := [.lit (.bool true)], args := [d1, d2, d3, d4, d5] }
  | _ => none }
def fnExactTruePairsRow : OpenClaim := { program := "ytmdgdnkllclpcaagreat", sum := "d49733ebdbf4a3133d2f9369f7f835c574325ce1c549abbb43abe435023f419a", func := "loop.example/g00250/laws.FnExactTruePairs", spec := "fnExactTruePairs", unfollowed := true, recurses := true, plainKeys := false, apart := false }
def FnExactTruePairsSaid : Prop := fnExactTruePairsRow.holds Tryz.pinned (OpenSpec.ofChange fnExactTruePairsSpec)

/-- ITS FALSE NEIGHBOUR: 'it returns false'. Refute it at one input. -/
def fnExactTruePairsWrong : ChangeSpec := { name := "fnExactTruePairs", fn := fun _ => fun
  | [d1, d2, d3, d4, d5] => { results := [.lit (.bool false)], args := [d1, d2, d3, d4, d5] }
  | _ => none }
def FnExactTruePairsWrongFalsely : Prop := fnExactTruePairsRow.holds Tryz.pinned (OpenSpec.ofChange fnExactTruePairsWrong)

/-- 'laws.FnExactRoamNew': WHATEVER THE INPUT: true; the input reads as it did. -/
def fnExactRoamNewSpec : ChangeSpec := { name := "fnExactRoamNew", fn := fun _ => fun
  | [d1, d2, d3] => { results := [.lit (.bool true)], args := [d1, d2, d3] }
  | _ => none }
def fnExactRoamNewRow : OpenClaim := { program := "ytmdgdnkllclpcaagreat", sum := "d49733ebdbf4a3133d2f9369f7f835c574325ce1c549abbb43abe435023f419a", func := "loop.example/g00250/laws.FnExactRoamNew", spec := "fnExactRoamNew", unfollowed := true, recurses := true, plainKeys := false, apart := false }
def FnExactRoamNewSaid : Prop := fnExactRoamNewRow.holds Tryz.pinned (OpenSpec.ofChange fnExactRoamNewSpec)

/-- ITS FALSE NEIGHBOUR: 'it returns false'. Refute it at one input. -/
def fnExactRoamNewWrong : ChangeSpec := { name := "fnExactRoamNew", fn := fun _ => fun
  | [d1, d2, d3] => { results := [.lit (.bool false)], args := [d1, d2, d3] }
  | _ => none }
def FnExactRoamNewWrongFalsely : Prop := fnExactRoamNewRow.holds Tryz.pinned (OpenSpec.ofChange fnExactRoamNewWrong)

/-- 'laws.FnExactRoamStep': WHATEVER THE INPUT: true; the input reads as it did. -/
def fnExactRoamStepSpec : ChangeSpec := { name := "fnExactRoamStep", fn := fun _ => fun
  | [d1, d2, d3, d4, d5] => { results := [.lit (.bool true)], args := [d1, d2, d3, d4, d5] }
  | _ => none }
def fnExactRoamStepRow : OpenClaim := { program := "ytmdgdnkllclpcaagreat", sum := "d49733ebdbf4a3133d2f9369f7f835c574325ce1c549abbb43abe435023f419a", func := "loop.example/g00250/laws.FnExactRoamStep", spec := "fnExactRoamStep", unfollowed := true, recurses := true, plainKeys := false, apart := false }
def FnExactRoamStepSaid : Prop := fnExactRoamStepRow.holds Tryz.pinned (OpenSpec.ofChange fnExactRoamStepSpec)

/-- ITS FALSE NEIGHBOUR: 'it returns false'. Refute it at one input. -/
def fnExactRoamStepWrong : ChangeSpec := { name := "fnExactRoamStep", fn := fun _ => fun
  | [d1, d2, d3, d4, d5] => { results := [.lit (.bool false)], args := [d1, d2, d3, d4, d5] }
  | _ => none }
def FnExactRoamStepWrongFalsely : Prop := fnExactRoamStepRow.holds Tryz.pinned (OpenSpec.ofChange fnExactRoamStepWrong)

/-- 'laws.FnExactRoamAll': WHATEVER THE INPUT: true; the input reads as it did. -/
def fnExactRoamAllSpec : ChangeSpec := { name := "fnExactRoamAll", fn := fun _ => fun
  | [d1, d2, d3, d4] => { results := [.lit (.bool true)], args := [d1, d2, d3, d4] }
  | _ => none }
def fnExactRoamAllRow : OpenClaim := { program := "ytmdgdnkllclpcaagreat", sum := "d49733ebdbf4a3133d2f9369f7f835c574325ce1c549abbb43abe435023f419a", func := "loop.example/g00250/laws.FnExactRoamAll", spec := "fnExactRoamAll", unfollowed := true, recurses := true, plainKeys := false, apart := false }
def FnExactRoamAllSaid : Prop := fnExactRoamAllRow.holds Tryz.pinned (OpenSpec.ofChange fnExactRoamAllSpec)

/-- ITS FALSE NEIGHBOUR: 'it returns false'. Refute it at one input. -/
def fnExactRoamAllWrong : ChangeSpec := { name := "fnExactRoamAll", fn := fun _ => fun
  | [d1, d2, d3, d4] => { results := [.lit (.bool false)], args := [d1, d2, d3, d4] }
  | _ => none }
def FnExactRoamAllWrongFalsely : Prop := fnExactRoamAllRow.holds Tryz.pinned (OpenSpec.ofChange fnExactRoamAllWrong)

/- THE SECOND FORM. 'bulk': how many values and letters a reading holds, each counted each time it is reached (what is shared counts as often as it is met; a slice's spare places count too). A statement '..UptoSaid' is the law's where the arguments, and the package variables that the reading takes, are together of bulk at most 1048576: NARROWER than '..Said'. Prove '..Said' where nothing that the law and all that it calls make is longer than what came in: it says more and counts as full. Else prove '..UptoSaid'. A law counts once. -/
mutual
def uptoBulk {H : Type} : DataW H → Nat
  | .lit (.string bytes) => bytes.length + 1
  | .lit _ => 1
  | .nil => 1
  | .ptr d => uptoBulk d + 1
  | .slice elems spare => uptoBulkAll elems + uptoBulkAll spare + 1
  | .agg parts => uptoBulkAll parts + 1
  | .iface _ d => uptoBulk d + 1
  | .map entries => uptoBulkEntries entries + 1
  | .held _ => 1
def uptoBulkAll {H : Type} : List (DataW H) → Nat
  | [] => 0
  | d :: r => uptoBulk d + uptoBulkAll r
def uptoBulkEntries {H : Type} : List (Lit × DataW H) → Nat
  | [] => 0
  | x :: r => uptoBulkEntry x + uptoBulkEntries r
def uptoBulkEntry {H : Type} : Lit × DataW H → Nat
  | (.string bytes, d) => bytes.length + uptoBulk d + 1
  | (_, d) => uptoBulk d + 1
 end
def uptoSmall : (H : Type) → List (DataW H) → Bool := fun _ ds => decide (uptoBulkAll ds ≤ 1048576)
def OpenSpec.upto (s : _root_.Go.ChangeSpec) : _root_.Go.OpenSpec := { _root_.Go.OpenSpec.ofChange s with cond := some uptoSmall }

/-- 'laws.FnExactPairsIn', WHERE WHAT IT READS IS OF BULK AT MOST 1048576: true; the input reads as it did. -/
def fnExactPairsInUptoRow : OpenClaim := { program := "ytmdgdnkllclpcaagreat", sum := "d49733ebdbf4a3133d2f9369f7f835c574325ce1c549abbb43abe435023f419a", func := "loop.example/g00250/laws.FnExactPairsIn", spec := "fnExactPairsIn", unfollowed := true, recurses := true, plainKeys := false, apart := false, narrowed := true }
def FnExactPairsInUptoSaid : Prop := fnExactPairsInUptoRow.holds Tryz.pinned (OpenSpec.upto fnExactPairsInSpec)

/-- 'laws.FnExactWalksOn', WHERE WHAT IT READS IS OF BULK AT MOST 1048576: true; the input reads as it did. -/
def fnExactWalksOnUptoRow : OpenClaim := { program := "ytmdgdnkllclpcaagreat", sum := "d49733ebdbf4a3133d2f9369f7f835c574325ce1c549abbb43abe435023f419a", func := "loop.example/g00250/laws.FnExactWalksOn", spec := "fnExactWalksOn", unfollowed := true, recurses := true, plainKeys := false, apart := false, narrowed := true }
def FnExactWalksOnUptoSaid : Prop := fnExactWalksOnUptoRow.holds Tryz.pinned (OpenSpec.upto fnExactWalksOnSpec)

/-- 'laws.FnExactStartWalks', WHERE WHAT IT READS IS OF BULK AT MOST 1048576: true; the input reads as it did. -/
def fnExactStartWalksUptoRow : OpenClaim := { program := "ytmdgdnkllclpcaagreat", sum := "d49733ebdbf4a3133d2f9369f7f835c574325ce1c549abbb43abe435023f419a", func := "loop.example/g00250/laws.FnExactStartWalks", spec := "fnExactStartWalks", unfollowed := true, recurses := true, plainKeys := false, apart := false, narrowed := true }
def FnExactStartWalksUptoSaid : Prop := fnExactStartWalksUptoRow.holds Tryz.pinned (OpenSpec.upto fnExactStartWalksSpec)

/-- 'laws.FnExactTakeWalks', WHERE WHAT IT READS IS OF BULK AT MOST 1048576: true; the input reads as it did. -/
def fnExactTakeWalksUptoRow : OpenClaim := { program := "ytmdgdnkllclpcaagreat", sum := "d49733ebdbf4a3133d2f9369f7f835c574325ce1c549abbb43abe435023f419a", func := "loop.example/g00250/laws.FnExactTakeWalks", spec := "fnExactTakeWalks", unfollowed := true, recurses := true, plainKeys := false, apart := false, narrowed := true }
def FnExactTakeWalksUptoSaid : Prop := fnExactTakeWalksUptoRow.holds Tryz.pinned (OpenSpec.upto fnExactTakeWalksSpec)

/-- 'laws.FnExactTruePairs', WHERE WHAT IT READS IS OF BULK AT MOST 1048576: true; the input reads as it did. -/
def fnExactTruePairsUptoRow : OpenClaim := { program := "ytmdgdnkllclpcaagreat", sum := "d49733ebdbf4a3133d2f9369f7f835c574325ce1c549abbb43abe435023f419a", func := "loop.example/g00250/laws.FnExactTruePairs", spec := "fnExactTruePairs", unfollowed := true, recurses := true, plainKeys := false, apart := false, narrowed := true }
def FnExactTruePairsUptoSaid : Prop := fnExactTruePairsUptoRow.holds Tryz.pinned (OpenSpec.upto fnExactTruePairsSpec)

/-- 'laws.FnExactRoamNew', WHERE WHAT IT READS IS OF BULK AT MOST 1048576: true; the input reads as it did. -/
def fnExactRoamNewUptoRow : OpenClaim := { program := "ytmdgdnkllclpcaagreat", sum := "d49733ebdbf4a3133d2f9369f7f835c574325ce1c549abbb43abe435023f419a", func := "loop.example/g00250/laws.FnExactRoamNew", spec := "fnExactRoamNew", unfollowed := true, recurses := true, plainKeys := false, apart := false, narrowed := true }
def FnExactRoamNewUptoSaid : Prop := fnExactRoamNewUptoRow.holds Tryz.pinned (OpenSpec.upto fnExactRoamNewSpec)

/-- 'laws.FnExactRoamStep', WHERE WHAT IT READS IS OF BULK AT MOST 1048576: true; the input reads as it did. -/
def fnExactRoamStepUptoRow : OpenClaim := { program := "ytmdgdnkllclpcaagreat", sum := "d49733ebdbf4a3133d2f9369f7f835c574325ce1c549abbb43abe435023f419a", func := "loop.example/g00250/laws.FnExactRoamStep", spec := "fnExactRoamStep", unfollowed := true, recurses := true, plainKeys := false, apart := false, narrowed := true }
def FnExactRoamStepUptoSaid : Prop := fnExactRoamStepUptoRow.holds Tryz.pinned (OpenSpec.upto fnExactRoamStepSpec)

/-- 'laws.FnExactRoamAll', WHERE WHAT IT READS IS OF BULK AT MOST 1048576: true; the input reads as it did. -/
def fnExactRoamAllUptoRow : OpenClaim := { program := "ytmdgdnkllclpcaagreat", sum := "d49733ebdbf4a3133d2f9369f7f835c574325ce1c549abbb43abe435023f419a", func := "loop.example/g00250/laws.FnExactRoamAll", spec := "fnExactRoamAll", unfollowed := true, recurses := true, plainKeys := false, apart := false, narrowed := true }
def FnExactRoamAllUptoSaid : Prop := fnExactRoamAllUptoRow.holds Tryz.pinned (OpenSpec.upto fnExactRoamAllSpec)

end Rows
end Go.Proofs.YtmdgdnkllclpcaaGreat
