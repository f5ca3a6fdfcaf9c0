/-
  No cell of these rows narrows 'for every input' (looked for: loops, veiled, ifaces, maps, wideKeys, modest, calm, conditions, laid).
  DERIVED. THE GIVEN ROWS OF THIS SEAT. 12 by the template 'for every input the law returns true; each argument reads behind the call as it read before'; 0 by the template 'total and deterministic' (their statements: YtdggaohenacaeaaGreatTotals.lean).
  GIVEN WITH THE SEED: the statements are not yours to turn. If you find one false, say at which input.
  Laid BY PROGRAM, IN A SANDBOX (cutbox-rows.mjs): the forced cells as the released guide's own fill.sh prints them over the translation 2b0382f4afdeee05… (all of the seat's roots in one cut). By AI agents, Wed Nov 11 2026. No macro, syntax, notation, axiom, sorry.
-/
import Derived.Test.YtdggaohenacaeaaGreatChecked
import GoSem.Claim
import GoSem.ClaimJoined
import GoSem.ClaimMapViews
import Derived.JoinedTies
import Derived.KernelRfl
namespace Go.Proofs.YtdggaohenacaeaaGreat
/- THE CELL 'sum', in the pinned program and in every row, IS THE sha256 OF THE DUMP (.gsa) THAT YtdggaohenacaeaaGreatProg.lean LOADS. Nothing in Lean hashes anything: it is a label: what it is worth is what the hold of that sum in a sandbox is worth. -/
noncomputable def Tryz.pinned : Pinned := { name := "ytdggaohenacaeaagreat", sum := "2b0382f4afdeee05faafe55a1c3997f3bf52a127cd06fe1decbc1a315746aafc", checked := Tryz.checked }
namespace Rows
def none {H : Type} : Left H := { results := [], args := [] }

/-- 'laws.FnExactLeadsTo': WHATEVER THE INPUT: true; the input reads as it did. -/
def fnExactLeadsToSpec : ChangeSpec := { name := "fnExactLeadsTo", fn := fun _ => fun
  | [d1, d2, d3, d4] => { results := [.lit (.bool true)], args := [d1, d2, d3, d4] }
  | _ => none }
def fnExactLeadsToRow : OpenClaim := { program := "ytdggaohenacaeaagreat", sum := "2b0382f4afdeee05faafe55a1c3997f3bf52a127cd06fe1decbc1a315746aafc", func := "loop.example/g00649/laws.FnExactLeadsTo", spec := "fnExactLeadsTo", unfollowed := true, recurses := true, named := ["math/bits.divideError", "math/bits.overflowError"], apart := false }
def FnExactLeadsToSaid : Prop := fnExactLeadsToRow.holds Tryz.pinned (OpenSpec.ofChange fnExactLeadsToSpec)

/-- ITS FALSE NEIGHBOUR: 'it returns false'. Refute it at one input. -/
def fnExactLeadsToWrong : ChangeSpec := { name := "fnExactLeadsTo", fn := fun _ => fun
  | [d1, d2, d3, d4] => { results := [.lit (.bool false)], args := [d1, d2, d3, d4] }
  | _ => none }
def FnExactLeadsToWrongFalsely : Prop := fnExactLeadsToRow.holds Tryz.pinned (OpenSpec.ofChange fnExactLeadsToWrong)

/-- 'laws.FnExactAfterOf': WHATEVER THE INPUT: true; the input reads as it did. -/
def fnExactAfterOfSpec : ChangeSpec := { name := "fnExactAfterOf", fn := fun _ => fun
  | [d1, d2, d3] => { results := [.lit (.bool true)], args := [d1, d2, d3] }
  | _ => none }
def fnExactAfterOfRow : OpenClaim := { program := "ytdggaohenacaeaagreat", sum := "2b0382f4afdeee05faafe55a1c3997f3bf52a127cd06fe1decbc1a315746aafc", func := "loop.example/g00649/laws.FnExactAfterOf", spec := "fnExactAfterOf", unfollowed := true, recurses := true, named := ["math/bits.divideError", "math/bits.overflowError"], apart := false }
def FnExactAfterOfSaid : Prop := fnExactAfterOfRow.holds Tryz.pinned (OpenSpec.ofChange fnExactAfterOfSpec)

/-- ITS FALSE NEIGHBOUR: 'it returns false'. Refute it at one input. -/
def fnExactAfterOfWrong : ChangeSpec := { name := "fnExactAfterOf", fn := fun _ => fun
  | [d1, d2, d3] => { results := [.lit (.bool false)], args := [d1, d2, d3] }
  | _ => none }
def FnExactAfterOfWrongFalsely : Prop := fnExactAfterOfRow.holds Tryz.pinned (OpenSpec.ofChange fnExactAfterOfWrong)

/-- 'laws.FnExactIsInvariant': WHATEVER THE INPUT: true; the input reads as it did. -/
def fnExactIsInvariantSpec : ChangeSpec := { name := "fnExactIsInvariant", fn := fun _ => fun
  | [d1, d2] => { results := [.lit (.bool true)], args := [d1, d2] }
  | _ => none }
def fnExactIsInvariantRow : OpenClaim := { program := "ytdggaohenacaeaagreat", sum := "2b0382f4afdeee05faafe55a1c3997f3bf52a127cd06fe1decbc1a315746aafc", func := "loop.example/g00649/laws.FnExactIsInvariant", spec := "fnExactIsInvariant", unfollowed := true, recurses := true, named := ["math/bits.divideError", "math/bits.overflowError"], apart := false }
def FnExactIsInvariantSaid : Prop := fnExactIsInvariantRow.holds Tryz.pinned (OpenSpec.ofChange fnExactIsInvariantSpec)

/-- ITS FALSE NEIGHBOUR: 'it returns false'. Refute it at one input. -/
def fnExactIsInvariantWrong : ChangeSpec := { name := "fnExactIsInvariant", fn := fun _ => fun
  | [d1, d2] => { results := [.lit (.bool false)], args := [d1, d2] }
  | _ => none }
def FnExactIsInvariantWrongFalsely : Prop := fnExactIsInvariantRow.holds Tryz.pinned (OpenSpec.ofChange fnExactIsInvariantWrong)

/-- 'laws.FnExactClassSteps': WHATEVER THE INPUT: true; the input reads as it did. -/
def fnExactClassStepsSpec : ChangeSpec := { name := "fnExactClassSteps", fn := fun _ => fun
  | [d1, d2, d3] => { results := [.lit (.bool true)], args := [d1, d2, d3] }
  | _ => none }
def fnExactClassStepsRow : OpenClaim := { program := "ytdggaohenacaeaagreat", sum := "2b0382f4afdeee05faafe55a1c3997f3bf52a127cd06fe1decbc1a315746aafc", func := "loop.example/g00649/laws.FnExactClassSteps", spec := "fnExactClassSteps", unfollowed := true, recurses := true, named := ["math/bits.divideError", "math/bits.overflowError"], apart := false }
def FnExactClassStepsSaid : Prop := fnExactClassStepsRow.holds Tryz.pinned (OpenSpec.ofChange fnExactClassStepsSpec)

/-- ITS FALSE NEIGHBOUR: 'it returns false'. Refute it at one input. -/
def fnExactClassStepsWrong : ChangeSpec := { name := "fnExactClassSteps", fn := fun _ => fun
  | [d1, d2, d3] => { results := [.lit (.bool false)], args := [d1, d2, d3] }
  | _ => none }
def FnExactClassStepsWrongFalsely : Prop := fnExactClassStepsRow.holds Tryz.pinned (OpenSpec.ofChange fnExactClassStepsWrong)

/-- 'laws.FnExactStepsOn': WHATEVER THE INPUT: true; the input reads as it did. -/
def fnExactStepsOnSpec : ChangeSpec := { name := "fnExactStepsOn", fn := fun _ => fun
  | [d1, d2, d3, d4] => { results := [.lit (.bool true)], args := [d1, d2, d3, d4] }
  | _ => none }
def fnExactStepsOnRow : OpenClaim := { program := "ytdggaohenacaeaagreat", sum := "2b0382f4afdeee05faafe55a1c3997f3bf52a127cd06fe1decbc1a315746aafc", func := "loop.example/g00649/laws.FnExactStepsOn", spec := "fnExactStepsOn", unfollowed := true, recurses := true, named := ["math/bits.divideError", "math/bits.overflowError"], apart := false }
def FnExactStepsOnSaid : Prop := fnExactStepsOnRow.holds Tryz.pinned (OpenSpec.ofChange fnExactStepsOnSpec)

/-- ITS FALSE NEIGHBOUR: 'it returns false'. Refute it at one input. -/
def fnExactStepsOnWrong : ChangeSpec := { name := "fnExactStepsOn", fn := fun _ => fun
  | [d1, d2, d3, d4] => { results := [.lit (.bool false)], args := [d1, d2, d3, d4] }
  | _ => none }
def FnExactStepsOnWrongFalsely : Prop := fnExactStepsOnRow.holds Tryz.pinned (OpenSpec.ofChange fnExactStepsOnWrong)

/-- 'laws.FnExactFailsAt': WHATEVER THE INPUT: true; the input reads as it did. -/
def fnExactFailsAtSpec : ChangeSpec := { name := "fnExactFailsAt", fn := fun _ => fun
  | [d1, d2, d3] => { results := [.lit (.bool true)], args := [d1, d2, d3] }
  | _ => none }
def fnExactFailsAtRow : OpenClaim := { program := "ytdggaohenacaeaagreat", sum := "2b0382f4afdeee05faafe55a1c3997f3bf52a127cd06fe1decbc1a315746aafc", func := "loop.example/g00649/laws.FnExactFailsAt", spec := "fnExactFailsAt", unfollowed := true, recurses := true, named := ["math/bits.divideError", "math/bits.overflowError"], apart := false }
def FnExactFailsAtSaid : Prop := fnExactFailsAtRow.holds Tryz.pinned (OpenSpec.ofChange fnExactFailsAtSpec)

/-- ITS FALSE NEIGHBOUR: 'it returns false'. Refute it at one input. -/
def fnExactFailsAtWrong : ChangeSpec := { name := "fnExactFailsAt", fn := fun _ => fun
  | [d1, d2, d3] => { results := [.lit (.bool false)], args := [d1, d2, d3] }
  | _ => none }
def FnExactFailsAtWrongFalsely : Prop := fnExactFailsAtRow.holds Tryz.pinned (OpenSpec.ofChange fnExactFailsAtWrong)

/-- 'laws.FnExactIsStable': WHATEVER THE INPUT: true; the input reads as it did. -/
def fnExactIsStableSpec : ChangeSpec := { name := "fnExactIsStable", fn := fun _ => fun
  | [d1, d2] => { results := [.lit (.bool true)], args := [d1, d2] }
  | _ => none }
def fnExactIsStableRow : OpenClaim := { program := "ytdggaohenacaeaagreat", sum := "2b0382f4afdeee05faafe55a1c3997f3bf52a127cd06fe1decbc1a315746aafc", func := "loop.example/g00649/laws.FnExactIsStable", spec := "fnExactIsStable", unfollowed := true, recurses := true, named := ["math/bits.divideError", "math/bits.overflowError"], apart := false }
def FnExactIsStableSaid : Prop := fnExactIsStableRow.holds Tryz.pinned (OpenSpec.ofChange fnExactIsStableSpec)

/-- ITS FALSE NEIGHBOUR: 'it returns false'. Refute it at one input. -/
def fnExactIsStableWrong : ChangeSpec := { name := "fnExactIsStable", fn := fun _ => fun
  | [d1, d2] => { results := [.lit (.bool false)], args := [d1, d2] }
  | _ => none }
def FnExactIsStableWrongFalsely : Prop := fnExactIsStableRow.holds Tryz.pinned (OpenSpec.ofChange fnExactIsStableWrong)

/-- 'laws.FnExactClassGraph': WHATEVER THE INPUT: true; the input reads as it did. -/
def fnExactClassGraphSpec : ChangeSpec := { name := "fnExactClassGraph", fn := fun _ => fun
  | [d1, d2] => { results := [.lit (.bool true)], args := [d1, d2] }
  | _ => none }
def fnExactClassGraphRow : OpenClaim := { program := "ytdggaohenacaeaagreat", sum := "2b0382f4afdeee05faafe55a1c3997f3bf52a127cd06fe1decbc1a315746aafc", func := "loop.example/g00649/laws.FnExactClassGraph", spec := "fnExactClassGraph", unfollowed := true, recurses := true, named := ["math/bits.divideError", "math/bits.overflowError"], apart := false }
def FnExactClassGraphSaid : Prop := fnExactClassGraphRow.holds Tryz.pinned (OpenSpec.ofChange fnExactClassGraphSpec)

/-- ITS FALSE NEIGHBOUR: 'it returns false'. Refute it at one input. -/
def fnExactClassGraphWrong : ChangeSpec := { name := "fnExactClassGraph", fn := fun _ => fun
  | [d1, d2] => { results := [.lit (.bool false)], args := [d1, d2] }
  | _ => none }
def FnExactClassGraphWrongFalsely : Prop := fnExactClassGraphRow.holds Tryz.pinned (OpenSpec.ofChange fnExactClassGraphWrong)

/-- 'laws.FnExactSureSteps': WHATEVER THE INPUT: true; the input reads as it did. -/
def fnExactSureStepsSpec : ChangeSpec := { name := "fnExactSureSteps", fn := fun _ => fun
  | [d1, d2, d3] => { results := [.lit (.bool true)], args := [d1, d2, d3] }
  | _ => none }
def fnExactSureStepsRow : OpenClaim := { program := "ytdggaohenacaeaagreat", sum := "2b0382f4afdeee05faafe55a1c3997f3bf52a127cd06fe1decbc1a315746aafc", func := "loop.example/g00649/laws.FnExactSureSteps", spec := "fnExactSureSteps", unfollowed := true, recurses := true, named := ["math/bits.divideError", "math/bits.overflowError"], apart := false }
def FnExactSureStepsSaid : Prop := fnExactSureStepsRow.holds Tryz.pinned (OpenSpec.ofChange fnExactSureStepsSpec)

/-- ITS FALSE NEIGHBOUR: 'it returns false'. Refute it at one input. -/
def fnExactSureStepsWrong : ChangeSpec := { name := "fnExactSureSteps", fn := fun _ => fun
  | [d1, d2, d3] => { results := [.lit (.bool false)], args := [d1, d2, d3] }
  | _ => none }
def FnExactSureStepsWrongFalsely : Prop := fnExactSureStepsRow.holds Tryz.pinned (OpenSpec.ofChange fnExactSureStepsWrong)

/-- 'laws.FnExactStatesAlong': WHATEVER THE INPUT: true; the input reads as it did. -/
def fnExactStatesAlongSpec : ChangeSpec := { name := "fnExactStatesAlong", fn := fun _ => fun
  | [d1, d2, d3] => { results := [.lit (.bool true)], args := [d1, d2, d3] }
  | _ => none }
def fnExactStatesAlongRow : OpenClaim := { program := "ytdggaohenacaeaagreat", sum := "2b0382f4afdeee05faafe55a1c3997f3bf52a127cd06fe1decbc1a315746aafc", func := "loop.example/g00649/laws.FnExactStatesAlong", spec := "fnExactStatesAlong", unfollowed := true, recurses := true, named := ["math/bits.divideError", "math/bits.overflowError"], apart := false }
def FnExactStatesAlongSaid : Prop := fnExactStatesAlongRow.holds Tryz.pinned (OpenSpec.ofChange fnExactStatesAlongSpec)

/-- ITS FALSE NEIGHBOUR: 'it returns false'. Refute it at one input. -/
def fnExactStatesAlongWrong : ChangeSpec := { name := "fnExactStatesAlong", fn := fun _ => fun
  | [d1, d2, d3] => { results := [.lit (.bool false)], args := [d1, d2, d3] }
  | _ => none }
def FnExactStatesAlongWrongFalsely : Prop := fnExactStatesAlongRow.holds Tryz.pinned (OpenSpec.ofChange fnExactStatesAlongWrong)

/-- 'laws.FnExactDeadEnds': WHATEVER THE INPUT: true; the input reads as it did. -/
def fnExactDeadEndsSpec : ChangeSpec := { name := "fnExactDeadEnds", fn := fun _ => fun
  | [d1, d2, d3] => { results := [.lit (.bool true)], args := [d1, d2, d3] }
  | _ => none }
def fnExactDeadEndsRow : OpenClaim := { program := "ytdggaohenacaeaagreat", sum := "2b0382f4afdeee05faafe55a1c3997f3bf52a127cd06fe1decbc1a315746aafc", func := "loop.example/g00649/laws.FnExactDeadEnds", spec := "fnExactDeadEnds", unfollowed := true, recurses := true, named := ["math/bits.divideError", "math/bits.overflowError"], apart := false }
def FnExactDeadEndsSaid : Prop := fnExactDeadEndsRow.holds Tryz.pinned (OpenSpec.ofChange fnExactDeadEndsSpec)

/-- ITS FALSE NEIGHBOUR: 'it returns false'. Refute it at one input. -/
def fnExactDeadEndsWrong : ChangeSpec := { name := "fnExactDeadEnds", fn := fun _ => fun
  | [d1, d2, d3] => { results := [.lit (.bool false)], args := [d1, d2, d3] }
  | _ => none }
def FnExactDeadEndsWrongFalsely : Prop := fnExactDeadEndsRow.holds Tryz.pinned (OpenSpec.ofChange fnExactDeadEndsWrong)

/-- 'laws.FnExactRealPath': WHATEVER THE INPUT: true; the input reads as it did. -/
def fnExactRealPathSpec : ChangeSpec := { name := "fnExactRealPath", fn := fun _ => fun
  | [d1, d2, d3] => { results := [.lit (.bool true)], args := [d1, d2, d3] }
  | _ => none }
def fnExactRealPathRow : OpenClaim := { program := "ytdggaohenacaeaagreat", sum := "2b0382f4afdeee05faafe55a1c3997f3bf52a127cd06fe1decbc1a315746aafc", func := "loop.example/g00649/laws.FnExactRealPath", spec := "fnExactRealPath", unfollowed := true, recurses := true, named := ["math/bits.divideError", "math/bits.overflowError"], apart := false }
def FnExactRealPathSaid : Prop := fnExactRealPathRow.holds Tryz.pinned (OpenSpec.ofChange fnExactRealPathSpec)

/-- ITS FALSE NEIGHBOUR: 'it returns false'. Refute it at one input. -/
def fnExactRealPathWrong : ChangeSpec := { name := "fnExactRealPath", fn := fun _ => fun
  | [d1, d2, d3] => { results := [.lit (.bool false)], args := [d1, d2, d3] }
  | _ => none }
def FnExactRealPathWrongFalsely : Prop := fnExactRealPathRow.holds Tryz.pinned (OpenSpec.ofChange fnExactRealPathWrong)

/- THE SECOND FORM. 'bulk': how many values and letters a reading holds, each counted each time it is reached (what is shared counts as often as it is met; a slice's spare places count too). A statement '..UptoSaid' is the law's where the arguments, and the package variables that the reading takes, are together of bulk at most 1048576: NARROWER than '..Said'. Prove '..Said' where nothing that the law and all that it calls make is longer than what came in: it says more and counts as full. Else prove '..UptoSaid'. A law counts once. -/
mutual
def uptoBulk {H : Type} : DataW H → Nat
  | .lit (.string bytes) => bytes.length + 1
  | .lit _ => 1
  | .nil => 1
  | .ptr d => uptoBulk d + 1
  | .slice elems spare => uptoBulkAll elems + uptoBulkAll spare + 1
  | .agg parts => uptoBulkAll parts + 1
  | .iface _ d => uptoBulk d + 1
  | .map entries => uptoBulkEntries entries + 1
  | .held _ => 1
def uptoBulkAll {H : Type} : List (DataW H) → Nat
  | [] => 0
  | d :: r => uptoBulk d + uptoBulkAll r
def uptoBulkEntries {H : Type} : List (Lit × DataW H) → Nat
  | [] => 0
  | x :: r => uptoBulkEntry x + uptoBulkEntries r
def uptoBulkEntry {H : Type} : Lit × DataW H → Nat
  | (.string bytes, d) => bytes.length + uptoBulk d + 1
  | (_, d) => uptoBulk d + 1
 end
def uptoSmall : (H : Type) → List (DataW H) → Bool := fun _ ds => decide (uptoBulkAll ds ≤ 1048576)
def OpenSpec.upto (s : _root_.Go.ChangeSpec) : _root_.Go.OpenSpec := { _root_.Go.OpenSpec.ofChange s with cond := some uptoSmall }

/-- 'laws.FnExactLeadsTo', WHERE WHAT IT READS IS OF BULK AT MOST 1048576: true; the input reads as it did. -/
def fnExactLeadsToUptoRow : OpenClaim := { program := "ytdggaohenacaeaagreat", sum := "2b0382f4afdeee05faafe55a1c3997f3bf52a127cd06fe1decbc1a315746aafc", func := "loop.example/g00649/laws.FnExactLeadsTo", spec := "fnExactLeadsTo", unfollowed := true, recurses := true, named := ["math/bits.divideError", "math/bits.overflowError"], apart := false, narrowed := true }
def FnExactLeadsToUptoSaid : Prop := fnExactLeadsToUptoRow.holds Tryz.pinned (OpenSpec.upto fnExactLeadsToSpec)

/-- 'laws.FnExactAfterOf', WHERE WHAT IT READS IS OF BULK AT MOST 1048576: true; the input reads as it did. -/
def fnExactAfterOfUptoRow : OpenClaim := { program := "ytdggaohenacaeaagreat", sum := "2b0382f4afdeee05faafe55a1c3997f3bf52a127cd06fe1decbc1a315746aafc", func := "loop.example/g00649/laws.FnExactAfterOf", spec := "fnExactAfterOf", unfollowed := true, recurses := true, named := ["math/bits.divideError", "math/bits.overflowError"], apart := false, narrowed := true }
def FnExactAfterOfUptoSaid : Prop := fnExactAfterOfUptoRow.holds Tryz.pinned (OpenSpec.upto fnExactAfterOfSpec)

/-- 'laws.FnExactIsInvariant', WHERE WHAT IT READS IS OF BULK AT MOST 1048576: true; the input reads as it did. -/
def fnExactIsInvariantUptoRow : OpenClaim := { program := "ytdggaohenacaeaagreat", sum := "2b0382f4afdeee05faafe55a1c3997f3bf52a127cd06fe1decbc1a315746aafc", func := "loop.example/g00649/laws.FnExactIsInvariant", spec := "fnExactIsInvariant", unfollowed := true, recurses := true, named := ["math/bits.divideError", "math/bits.overflowError"], apart := false, narrowed := true }
def FnExactIsInvariantUptoSaid : Prop := fnExactIsInvariantUptoRow.holds Tryz.pinned (OpenSpec.upto fnExactIsInvariantSpec)

/-- 'laws.FnExactClassSteps', WHERE WHAT IT READS IS OF BULK AT MOST 1048576: true; the input reads as it did. -/
def fnExactClassStepsUptoRow : OpenClaim := { program := "ytdggaohenacaeaagreat", sum := "2b0382f4afdeee05faafe55a1c3997f3bf52a127cd06fe1decbc1a315746aafc", func := "loop.example/g00649/laws.FnExactClassSteps", spec := "fnExactClassSteps", unfollowed := true, recurses := true, named := ["math/bits.divideError", "math/bits.overflowError"], apart := false, narrowed := true }
def FnExactClassStepsUptoSaid : Prop := fnExactClassStepsUptoRow.holds Tryz.pinned (OpenSpec.upto fnExactClassStepsSpec)

/-- 'laws.FnExactStepsOn', WHERE WHAT IT READS IS OF BULK AT MOST 1048576: true; the input reads as it did. -/
def fnExactStepsOnUptoRow : OpenClaim := { program := "ytdggaohenacaeaagreat", sum := "2b0382f4afdeee05faafe55a1c3997f3bf52a127cd06fe1decbc1a315746aafc", func := "loop.example/g00649/laws.FnExactStepsOn", spec := "fnExactStepsOn", unfollowed := true, recurses := true, named := ["math/bits.divideError", "math/bits.overflowError"], apart := false, narrowed := true }
def FnExactStepsOnUptoSaid : Prop := fnExactStepsOnUptoRow.holds Tryz.pinned (OpenSpec.upto fnExactStepsOnSpec)

/-- 'laws.FnExactFailsAt', WHERE WHAT IT READS IS OF BULK AT MOST 1048576: true; the input reads as it did. -/
def fnExactFailsAtUptoRow : OpenClaim := { program := "ytdggaohenacaeaagreat", sum := "2b0382f4afdeee05faafe55a1c3997f3bf52a127cd06fe1decbc1a315746aafc", func := "loop.example/g00649/laws.FnExactFailsAt", spec := "fnExactFailsAt", unfollowed := true, recurses := true, named := ["math/bits.divideError", "math/bits.overflowError"], apart := false, narrowed := true }
def FnExactFailsAtUptoSaid : Prop := fnExactFailsAtUptoRow.holds Tryz.pinned (OpenSpec.upto fnExactFailsAtSpec)

/-- 'laws.FnExactIsStable', WHERE WHAT IT READS IS OF BULK AT MOST 1048576: true; the input reads as it did. -/
def fnExactIsStableUptoRow : OpenClaim := { program := "ytdggaohenacaeaagreat", sum := "2b0382f4afdeee05faafe55a1c3997f3bf52a127cd06fe1decbc1a315746aafc", func := "loop.example/g00649/laws.FnExactIsStable", spec := "fnExactIsStable", unfollowed := true, recurses := true, named := ["math/bits.divideError", "math/bits.overflowError"], apart := false, narrowed := true }
def FnExactIsStableUptoSaid : Prop := fnExactIsStableUptoRow.holds Tryz.pinned (OpenSpec.upto fnExactIsStableSpec)

/-- 'laws.FnExactClassGraph', WHERE WHAT IT READS IS OF BULK AT MOST 1048576: true; the input reads as it did. -/
def fnExactClassGraphUptoRow : OpenClaim := { program := "ytdggaohenacaeaagreat", sum := "2b0382f4afdeee05faafe55a1c3997f3bf52a127cd06fe1decbc1a315746aafc", func := "loop.example/g00649/laws.FnExactClassGraph", spec := "fnExactClassGraph", unfollowed := true, recurses := true, named := ["math/bits.divideError", "math/bits.overflowError"], apart := false, narrowed := true }
def FnExactClassGraphUptoSaid : Prop := fnExactClassGraphUptoRow.holds Tryz.pinned (OpenSpec.upto fnExactClassGraphSpec)

/-- 'laws.FnExactSureSteps', WHERE WHAT IT READS IS OF BULK AT MOST 1048576: true; the input reads as it did. -/
def fnExactSureStepsUptoRow : OpenClaim := { program := "ytdggaohenacaeaagreat", sum := "2b0382f4afdeee05faafe55a1c3997f3bf52a127cd06fe1decbc1a315746aafc", func := "loop.example/g00649/laws.FnExactSureSteps", spec := "fnExactSureSteps", unfollowed := true, recurses := true, named := ["math/bits.divideError", "math/bits.overflowError"], apart := false, narrowed := true }
def FnExactSureStepsUptoSaid : Prop := fnExactSureStepsUptoRow.holds Tryz.pinned (OpenSpec.upto fnExactSureStepsSpec)

/-- 'laws.FnExactStatesAlong', WHERE WHAT IT READS IS OF BULK AT MOST 1048576: true; the input reads as it did. -/
def fnExactStatesAlongUptoRow : OpenClaim := { program := "ytdggaohenacaeaagreat", sum := "2b0382f4afdeee05faafe55a1c3997f3bf52a127cd06fe1decbc1a315746aafc", func := "loop.example/g00649/laws.FnExactStatesAlong", spec := "fnExactStatesAlong", unfollowed := true, recurses := true, named := ["math/bits.divideError", "math/bits.overflowError"], apart := false, narrowed := true }
def FnExactStatesAlongUptoSaid : Prop := fnExactStatesAlongUptoRow.holds Tryz.pinned (OpenSpec.upto fnExactStatesAlongSpec)

/-- 'laws.FnExactDeadEnds', WHERE WHAT IT READS IS OF BULK AT MOST 1048576: true; the input reads as it did. -/
def fnExactDeadEndsUptoRow : OpenClaim := { program := "ytdggaohenacaeaagreat", sum := "2b0382f4afdeee05faafe55a1c3997f3bf52a127cd06fe1decbc1a315746aafc", func := "loop.example/g00649/laws.FnExactDeadEnds", spec := "fnExactDeadEnds", unfollowed := true, recurses := true, named := ["math/bits.divideError", "math/bits.overflowError"], apart := false, narrowed := true }
def FnExactDeadEndsUptoSaid : Prop := fnExactDeadEndsUptoRow.holds Tryz.pinned (OpenSpec.upto fnExactDeadEndsSpec)

/-- 'laws.FnExactRealPath', WHERE WHAT IT READS IS OF BULK AT MOST 1048576: true; the input reads as it did. -/
def fnExactRealPathUptoRow : OpenClaim := { program := "ytdggaohenacaeaagreat", sum := "2b0382f4afdeee05faafe55a1c3997f3bf52a127cd06fe1decbc1a315746aafc", func := "loop.example/g00649/laws.FnExactRealPath", spec := "fnExactRealPath", unfollowed := true, recurses := true, named := ["math/bits.divideError", "math/bits.overflowError"], apart := false, narrowed := true }
def FnExactRealPathUptoSaid : Prop := fnExactRealPathUptoRow.holds Tryz.pinned (OpenSpec.upto fnExactRealPathSpec)

end Rows
end Go.Proofs.YtdggaohenacaeaaGreat
