/-
  No cell of these rows narrows 'for every input' (looked for: loops, veiled, ifaces, maps, wideKeys, modest, calm, conditions, laid).
  DERIVED. THE GIVEN ROWS OF THIS SEAT. 6 by the template 'for every input the law returns true; each argument reads behind the call as it read before'; 0 by the template 'total and deterministic' (their statements: YtjnahjgncmcmdaaGreatTotals.lean).
  GIVEN WITH THE SEED: the statements are not yours to turn. If you find one false, say at which input.
  Laid BY PROGRAM, IN A SANDBOX (cutbox-rows.mjs): the forced cells as the released guide's own fill.sh prints them over the translation 2537f745c672c11f… (all of the seat's roots in one cut). By AI agents, Wed Nov 11 2026. No macro, syntax, notation, axiom, sorry.
-/
import Derived.Test.YtjnahjgncmcmdaaGreatChecked
import GoSem.Claim
import GoSem.ClaimJoined
import GoSem.ClaimMapViews
import Derived.JoinedTies
import Derived.KernelRfl
namespace Go.Proofs.YtjnahjgncmcmdaaGreat
/- THE CELL 'sum', in the pinned program and in every row, IS THE sha256 OF THE DUMP (.gsa) THAT YtjnahjgncmcmdaaGreatProg.lean LOADS. Nothing in Lean hashes anything: it is a label: what it is worth is what the hold of that sum in a sandbox is worth. -/
noncomputable def Tryz.pinned : Pinned := { name := "ytjnahjgncmcmdaagreat", sum := "2537f745c672c11fae5cd677a4983fb44c6118a7f77a8dfd02523062ce13221c", checked := Tryz.checked }
namespace Rows
def none {H : Type} : Left H := { results := [], args := [] }

/-- 'laws.FnRoams': WHATEVER THE INPUT: true; the input reads as it did. -/
def fnRoamsSpec : ChangeSpec := { name := "fnRoams", fn := fun _ => fun
  | [d] => { results := [.lit (.bool true)], args := [d] }
  | _ => none }
def fnRoamsRow : OpenClaim := { program := "ytjnahjgncmcmdaagreat", sum := "2537f745c672c11fae5cd677a4983fb44c6118a7f77a8dfd02523062ce13221c", func := "loop.example/g00250/laws.FnRoams", spec := "fnRoams", unfollowed := true, recurses := true, plainKeys := false, apart := false }
def FnRoamsSaid : Prop := fnRoamsRow.holds Tryz.pinned (OpenSpec.ofChange fnRoamsSpec)

/-- ITS FALSE NEIGHBOUR: 'it returns false'. Refute it at one input. -/
def fnRoamsWrong : ChangeSpec := { name := "fnRoams", fn := fun _ => fun
  | [d] => { results := [.lit (.bool false)], args := [d] }
  | _ => none }
def FnRoamsWrongFalsely : Prop := fnRoamsRow.holds Tryz.pinned (OpenSpec.ofChange fnRoamsWrong)

/-- 'laws.FnStarts': WHATEVER THE INPUT: true; the input reads as it did. -/
def fnStartsSpec : ChangeSpec := { name := "fnStarts", fn := fun _ => fun
  | [d] => { results := [.lit (.bool true)], args := [d] }
  | _ => none }
def fnStartsRow : OpenClaim := { program := "ytjnahjgncmcmdaagreat", sum := "2537f745c672c11fae5cd677a4983fb44c6118a7f77a8dfd02523062ce13221c", func := "loop.example/g00250/laws.FnStarts", spec := "fnStarts", unfollowed := true, recurses := true, plainKeys := false, apart := false }
def FnStartsSaid : Prop := fnStartsRow.holds Tryz.pinned (OpenSpec.ofChange fnStartsSpec)

/-- ITS FALSE NEIGHBOUR: 'it returns false'. Refute it at one input. -/
def fnStartsWrong : ChangeSpec := { name := "fnStarts", fn := fun _ => fun
  | [d] => { results := [.lit (.bool false)], args := [d] }
  | _ => none }
def FnStartsWrongFalsely : Prop := fnStartsRow.holds Tryz.pinned (OpenSpec.ofChange fnStartsWrong)

/-- 'laws.FnRoamSteps': WHATEVER THE INPUT: true; the input reads as it did. -/
def fnRoamStepsSpec : ChangeSpec := { name := "fnRoamSteps", fn := fun _ => fun
  | [d] => { results := [.lit (.bool true)], args := [d] }
  | _ => none }
def fnRoamStepsRow : OpenClaim := { program := "ytjnahjgncmcmdaagreat", sum := "2537f745c672c11fae5cd677a4983fb44c6118a7f77a8dfd02523062ce13221c", func := "loop.example/g00250/laws.FnRoamSteps", spec := "fnRoamSteps", unfollowed := true, recurses := true, plainKeys := false, apart := false }
def FnRoamStepsSaid : Prop := fnRoamStepsRow.holds Tryz.pinned (OpenSpec.ofChange fnRoamStepsSpec)

/-- ITS FALSE NEIGHBOUR: 'it returns false'. Refute it at one input. -/
def fnRoamStepsWrong : ChangeSpec := { name := "fnRoamSteps", fn := fun _ => fun
  | [d] => { results := [.lit (.bool false)], args := [d] }
  | _ => none }
def FnRoamStepsWrongFalsely : Prop := fnRoamStepsRow.holds Tryz.pinned (OpenSpec.ofChange fnRoamStepsWrong)

/-- 'laws.FnWalks': WHATEVER THE INPUT: true; the input reads as it did. -/
def fnWalksSpec : ChangeSpec := { name := "fnWalks", fn := fun _ => fun
  | [d] => { results := [.lit (.bool true)], args := [d] }
  | _ => none }
def fnWalksRow : OpenClaim := { program := "ytjnahjgncmcmdaagreat", sum := "2537f745c672c11fae5cd677a4983fb44c6118a7f77a8dfd02523062ce13221c", func := "loop.example/g00250/laws.FnWalks", spec := "fnWalks", unfollowed := true, recurses := true, plainKeys := false, apart := false }
def FnWalksSaid : Prop := fnWalksRow.holds Tryz.pinned (OpenSpec.ofChange fnWalksSpec)

/-- ITS FALSE NEIGHBOUR: 'it returns false'. Refute it at one input. -/
def fnWalksWrong : ChangeSpec := { name := "fnWalks", fn := fun _ => fun
  | [d] => { results := [.lit (.bool false)], args := [d] }
  | _ => none }
def FnWalksWrongFalsely : Prop := fnWalksRow.holds Tryz.pinned (OpenSpec.ofChange fnWalksWrong)

/-- 'laws.FnWalksOn': WHATEVER THE INPUT: true; the input reads as it did. -/
def fnWalksOnSpec : ChangeSpec := { name := "fnWalksOn", fn := fun _ => fun
  | [d] => { results := [.lit (.bool true)], args := [d] }
  | _ => none }
def fnWalksOnRow : OpenClaim := { program := "ytjnahjgncmcmdaagreat", sum := "2537f745c672c11fae5cd677a4983fb44c6118a7f77a8dfd02523062ce13221c", func := "loop.example/g00250/laws.FnWalksOn", spec := "fnWalksOn", unfollowed := true, recurses := true, plainKeys := false, apart := false }
def FnWalksOnSaid : Prop := fnWalksOnRow.holds Tryz.pinned (OpenSpec.ofChange fnWalksOnSpec)

/-- ITS FALSE NEIGHBOUR: 'it returns false'. Refute it at one input. -/
def fnWalksOnWrong : ChangeSpec := { name := "fnWalksOn", fn := fun _ => fun
  | [d] => { results := [.lit (.bool false)], args := [d] }
  | _ => none }
def FnWalksOnWrongFalsely : Prop := fnWalksOnRow.holds Tryz.pinned (OpenSpec.ofChange fnWalksOnWrong)

/-- 'laws.FnExactRoamAll': WHATEVER THE INPUT: true; the input reads as it did. -/
def fnExactRoamAllSpec : ChangeSpec := { name := "fnExactRoamAll", fn := fun _ => fun
  | [d1, d2, d3, d4] => { results := [.lit (.bool true)], args := [d1, d2, d3, d4] }
  | _ => none }
def fnExactRoamAllRow : OpenClaim := { program := "ytjnahjgncmcmdaagreat", sum := "2537f745c672c11fae5cd677a4983fb44c6118a7f77a8dfd02523062ce13221c", func := "loop.example/g00250/laws.FnExactRoamAll", spec := "fnExactRoamAll", unfollowed := true, recurses := true, plainKeys := false, apart := false }
def FnExactRoamAllSaid : Prop := fnExactRoamAllRow.holds Tryz.pinned (OpenSpec.ofChange fnExactRoamAllSpec)

/-- ITS FALSE NEIGHBOUR: 'it returns false'. Refute it at one input. -/
def fnExactRoamAllWrong : ChangeSpec := { name := "fnExactRoamAll", fn := fun _ => fun
  | [d1, d2, d3, d4] => { results := [.lit (.bool false)], args := [d1, d2, d3, d4] }
  | _ => none }
def FnExactRoamAllWrongFalsely : Prop := fnExactRoamAllRow.holds Tryz.pinned (OpenSpec.ofChange fnExactRoamAllWrong)

/- THE SECOND FORM. 'bulk': how many values and letters a reading holds, each counted each time it is reached (what is shared counts as often as it is met; a slice's spare places count too). A statement '..UptoSaid' is the law's where the arguments, and the package variables that the reading takes, are together of bulk at most 1048576: NARROWER than '..Said'. Prove '..Said' where nothing that the law and all that it calls make is longer than what came in: it says more and counts as full. Else prove '..UptoSaid'. A law counts once. -/
mutual
def uptoBulk {H : Type} : DataW H → Nat
  | .lit (.string bytes) => bytes.length + 1
  | .lit _ => 1
  | .nil => 1
  | .ptr d => uptoBulk d + 1
  | .slice elems spare => uptoBulkAll elems + uptoBulkAll spare + 1
  | .agg parts => uptoBulkAll parts + 1
  | .iface _ d => uptoBulk d + 1
  | .map entries => uptoBulkEntries entries + 1
  | .held _ => 1
def uptoBulkAll {H : Type} : List (DataW H) → Nat
  | [] => 0
  | d :: r => uptoBulk d + uptoBulkAll r
def uptoBulkEntries {H : Type} : List (Lit × DataW H) → Nat
  | [] => 0
  | x :: r => uptoBulkEntry x + uptoBulkEntries r
def uptoBulkEntry {H : Type} : Lit × DataW H → Nat
  | (.string bytes, d) => bytes.length + uptoBulk d + 1
  | (_, d) => uptoBulk d + 1
 end
def uptoSmall : (H : Type) → List (DataW H) → Bool := fun _ ds => decide (uptoBulkAll ds ≤ 1048576)
def OpenSpec.upto (s : _root_.Go.ChangeSpec) : _root_.Go.OpenSpec := { _root_.Go.OpenSpec.ofChange s with cond := some uptoSmall }

/-- 'laws.FnRoams', WHERE WHAT IT READS IS OF BULK AT MOST 1048576: true; the input reads as it did. -/
def fnRoamsUptoRow : OpenClaim := { program := "ytjnahjgncmcmdaagreat", sum := "2537f745c672c11fae5cd677a4983fb44c6118a7f77a8dfd02523062ce13221c", func := "loop.example/g00250/laws.FnRoams", spec := "fnRoams", unfollowed := true, recurses := true, plainKeys := false, apart := false, narrowed := true }
def FnRoamsUptoSaid : Prop := fnRoamsUptoRow.holds Tryz.pinned (OpenSpec.upto fnRoamsSpec)

/-- 'laws.FnStarts', WHERE WHAT IT READS IS OF BULK AT MOST 1048576: true; the input reads as it did. -/
def fnStartsUptoRow : OpenClaim := { program := "ytjnahjgncmcmdaagreat", sum := "2537f745c672c11fae5cd677a4983fb44c6118a7f77a8dfd02523062ce13221c", func := "loop.example/g00250/laws.FnStarts", spec := "fnStarts", unfollowed := true, recurses := true, plainKeys := false, apart := false, narrowed := true }
def FnStartsUptoSaid : Prop := fnStartsUptoRow.holds Tryz.pinned (OpenSpec.upto fnStartsSpec)

/-- 'laws.FnRoamSteps', WHERE WHAT IT READS IS OF BULK AT MOST 1048576: true; the input reads as it did. -/
def fnRoamStepsUptoRow : OpenClaim := { program := "ytjnahjgncmcmdaagreat", sum := "2537f745c672c11fae5cd677a4983fb44c6118a7f77a8dfd02523062ce13221c", func := "loop.example/g00250/laws.FnRoamSteps", spec := "fnRoamSteps", unfollowed := true, recurses := true, plainKeys := false, apart := false, narrowed := true }
def FnRoamStepsUptoSaid : Prop := fnRoamStepsUptoRow.holds Tryz.pinned (OpenSpec.upto fnRoamStepsSpec)

/-- 'laws.FnWalks', WHERE WHAT IT READS IS OF BULK AT MOST 1048576: true; the input reads as it did. -/
def fnWalksUptoRow : OpenClaim := { program := "ytjnahjgncmcmdaagreat", sum := "2537f745c672c11fae5cd677a4983fb44c6118a7f77a8dfd02523062ce13221c", func := "loop.example/g00250/laws.FnWalks", spec := "fnWalks", unfollowed := true, recurses := true, plainKeys := false, apart := false, narrowed := true }
def FnWalksUptoSaid : Prop := fnWalksUptoRow.holds Tryz.pinned (OpenSpec.upto fnWalksSpec)

/-- 'laws.FnWalksOn', WHERE WHAT IT READS IS OF BULK AT MOST 1048576: true; the input reads as it did. -/
def fnWalksOnUptoRow : OpenClaim := { program := "ytjnahjgncmcmdaagreat", sum := "2537f745c672c11fae5cd677a4983fb44c6118a7f77a8dfd02523062ce13221c", func := "loop.example/g00250/laws.FnWalksOn", spec := "fnWalksOn", unfollowed := true, recurses := true, plainKeys := false, apart := false, narrowed := true }
def FnWalksOnUptoSaid : Prop := fnWalksOnUptoRow.holds Tryz.pinned (OpenSpec.upto fnWalksOnSpec)

/-- 'laws.FnExactRoamAll', WHERE WHAT IT READS IS OF BULK AT MOST 1048576: true; the input reads as it did. -/
def fnExactRoamAllUptoRow : OpenClaim := { program := "ytjnahjgncmcmdaagreat", sum := "2537f745c672c11fae5cd677a4983fb44c6118a7f77a8dfd02523062ce13221c", func := "loop.example/g00250/laws.FnExactRoamAll", spec := "fnExactRoamAll", unfollowed := true, recurses := true, plainKeys := false, apart := false, narrowed := true }
def FnExactRoamAllUptoSaid : Prop := fnExactRoamAllUptoRow.holds Tryz.pinned (OpenSpec.upto fnExactRoamAllSpec)

end Rows
end Go.Proofs.YtjnahjgncmcmdaaGreat
