/-
  No cell of these rows narrows 'for every input' (looked for: loops, veiled, ifaces, maps, wideKeys, modest, calm, conditions, laid).
  DERIVED. THE GIVEN ROWS OF THIS SEAT. 8 by the template 'for every input the law returns true; each argument reads behind the call as it read before'; 0 by the template 'total and deterministic' (their statements: YtkfnlnohgfpipaaGreatTotals.lean).
  GIVEN WITH THE SEED: the statements are not yours to turn. If you find one false, say at which input.
  Laid BY PROGRAM, IN A SANDBOX (cutbox-rows.mjs): the forced cells as the released guide's own fill.sh prints them over the translation dfb7d1ffd3f79543… (all of the seat's roots in one cut). By AI agents, Wed Nov 11 2026. No macro, syntax, notation, axiom, sorry.
-/
import Derived.Test.YtkfnlnohgfpipaaGreatChecked
import GoSem.Claim
import GoSem.ClaimJoined
import GoSem.ClaimMapViews
import Derived.JoinedTies
import Derived.KernelRfl
namespace Go.Proofs.YtkfnlnohgfpipaaGreat
/- THE CELL 'sum', in the pinned program and in every row, IS THE sha256 OF THE DUMP (.gsa) THAT YtkfnlnohgfpipaaGreatProg.lean LOADS. Nothing in Lean hashes anything: it is a label: what it is worth is what the hold of that sum in a sandbox is worth. -/
noncomputable def Tryz.pinned : Pinned := { name := "ytkfnlnohgfpipaagreat", sum := "dfb7d1ffd3f795433b8a405773cf55118394d9b98500eb88348ae03af92454b7", checked := Tryz.checked }
namespace Rows
def none {H : Type} : Left H := { results := [], args := [] }

/-- 'laws.FnExactSightFor': WHATEVER THE INPUT: true; the input reads as it did. -/
def fnExactSightForSpec : ChangeSpec := { name := "fnExactSightFor", fn := fun _ => fun
  | [d1, d2] => { results := [.lit (.bool true)], args := [d1, d2] }
  | _ => none }
def fnExactSightForRow : OpenClaim := { program := "ytkfnlnohgfpipaagreat", sum := "dfb7d1ffd3f795433b8a405773cf55118394d9b98500eb88348ae03af92454b7", func := "loop.example/g00649/laws.FnExactSightFor", spec := "fnExactSightFor", unfollowed := true, recurses := true, named := ["math/bits.divideError", "math/bits.overflowError"], plainKeys := false, apart := false }
def FnExactSightForSaid : Prop := fnExactSightForRow.holds Tryz.pinned (OpenSpec.ofChange fnExactSightForSpec)

/-- ITS FALSE NEIGHBOUR: 'it returns false'. Refute it at one input. -/
def fnExactSightForWrong : ChangeSpec := { name := "fnExactSightFor", fn := fun _ => fun
  | [d1, d2] => { results := [.lit (.bool false)], args := [d1, d2] }
  | _ => none }
def FnExactSightForWrongFalsely : Prop := fnExactSightForRow.holds Tryz.pinned (OpenSpec.ofChange fnExactSightForWrong)

/-- 'laws.FnExactRealPath': WHATEVER THE INPUT: true; the input reads as it did. -/
def fnExactRealPathSpec : ChangeSpec := { name := "fnExactRealPath", fn := fun _ => fun
  | [d1, d2, d3] => { results := [.lit (.bool true)], args := [d1, d2, d3] }
  | _ => none }
def fnExactRealPathRow : OpenClaim := { program := "ytkfnlnohgfpipaagreat", sum := "dfb7d1ffd3f795433b8a405773cf55118394d9b98500eb88348ae03af92454b7", func := "loop.example/g00649/laws.FnExactRealPath", spec := "fnExactRealPath", unfollowed := true, recurses := true, named := ["math/bits.divideError", "math/bits.overflowError"], plainKeys := false, apart := false }
def FnExactRealPathSaid : Prop := fnExactRealPathRow.holds Tryz.pinned (OpenSpec.ofChange fnExactRealPathSpec)

/-- ITS FALSE NEIGHBOUR: 'it returns false'. Refute it at one input. -/
def fnExactRealPathWrong : ChangeSpec := { name := "fnExactRealPath", fn := fun _ => fun
  | [d1, d2, d3] => { results := [.lit (.bool false)], args := [d1, d2, d3] }
  | _ => none }
def FnExactRealPathWrongFalsely : Prop := fnExactRealPathRow.holds Tryz.pinned (OpenSpec.ofChange fnExactRealPathWrong)

/-- 'laws.FnExactRealLasso': WHATEVER THE INPUT: true; the input reads as it did. -/
def fnExactRealLassoSpec : ChangeSpec := { name := "fnExactRealLasso", fn := fun _ => fun
  | [d1, d2, d3, d4] => { results := [.lit (.bool true)], args := [d1, d2, d3, d4] }
  | _ => none }
def fnExactRealLassoRow : OpenClaim := { program := "ytkfnlnohgfpipaagreat", sum := "dfb7d1ffd3f795433b8a405773cf55118394d9b98500eb88348ae03af92454b7", func := "loop.example/g00649/laws.FnExactRealLasso", spec := "fnExactRealLasso", unfollowed := true, recurses := true, named := ["math/bits.divideError", "math/bits.overflowError"], plainKeys := false, apart := false }
def FnExactRealLassoSaid : Prop := fnExactRealLassoRow.holds Tryz.pinned (OpenSpec.ofChange fnExactRealLassoSpec)

/-- ITS FALSE NEIGHBOUR: 'it returns false'. Refute it at one input. -/
def fnExactRealLassoWrong : ChangeSpec := { name := "fnExactRealLasso", fn := fun _ => fun
  | [d1, d2, d3, d4] => { results := [.lit (.bool false)], args := [d1, d2, d3, d4] }
  | _ => none }
def FnExactRealLassoWrongFalsely : Prop := fnExactRealLassoRow.holds Tryz.pinned (OpenSpec.ofChange fnExactRealLassoWrong)

/-- 'laws.FnExactNever': WHATEVER THE INPUT: true; the input reads as it did. -/
def fnExactNeverSpec : ChangeSpec := { name := "fnExactNever", fn := fun _ => fun
  | [d1, d2, d3, d4] => { results := [.lit (.bool true)], args := [d1, d2, d3, d4] }
  | _ => none }
def fnExactNeverRow : OpenClaim := { program := "ytkfnlnohgfpipaagreat", sum := "dfb7d1ffd3f795433b8a405773cf55118394d9b98500eb88348ae03af92454b7", func := "loop.example/g00649/laws.FnExactNever", spec := "fnExactNever", unfollowed := true, recurses := true, named := ["math/bits.divideError", "math/bits.overflowError"], plainKeys := false, apart := false }
def FnExactNeverSaid : Prop := fnExactNeverRow.holds Tryz.pinned (OpenSpec.ofChange fnExactNeverSpec)

/-- ITS FALSE NEIGHBOUR: 'it returns false'. Refute it at one input. -/
def fnExactNeverWrong : ChangeSpec := { name := "fnExactNever", fn := fun _ => fun
  | [d1, d2, d3, d4] => { results := [.lit (.bool false)], args := [d1, d2, d3, d4] }
  | _ => none }
def FnExactNeverWrongFalsely : Prop := fnExactNeverRow.holds Tryz.pinned (OpenSpec.ofChange fnExactNeverWrong)

/-- 'laws.FnExactInvariant': WHATEVER THE INPUT: true; the input reads as it did. -/
def fnExactInvariantSpec : ChangeSpec := { name := "fnExactInvariant", fn := fun _ => fun
  | [d1, d2, d3, d4] => { results := [.lit (.bool true)], args := [d1, d2, d3, d4] }
  | _ => none }
def fnExactInvariantRow : OpenClaim := { program := "ytkfnlnohgfpipaagreat", sum := "dfb7d1ffd3f795433b8a405773cf55118394d9b98500eb88348ae03af92454b7", func := "loop.example/g00649/laws.FnExactInvariant", spec := "fnExactInvariant", unfollowed := true, recurses := true, named := ["math/bits.divideError", "math/bits.overflowError"], plainKeys := false, apart := false }
def FnExactInvariantSaid : Prop := fnExactInvariantRow.holds Tryz.pinned (OpenSpec.ofChange fnExactInvariantSpec)

/-- ITS FALSE NEIGHBOUR: 'it returns false'. Refute it at one input. -/
def fnExactInvariantWrong : ChangeSpec := { name := "fnExactInvariant", fn := fun _ => fun
  | [d1, d2, d3, d4] => { results := [.lit (.bool false)], args := [d1, d2, d3, d4] }
  | _ => none }
def FnExactInvariantWrongFalsely : Prop := fnExactInvariantRow.holds Tryz.pinned (OpenSpec.ofChange fnExactInvariantWrong)

/-- 'laws.FnExactCheckRun': WHATEVER THE INPUT: true; the input reads as it did. -/
def fnExactCheckRunSpec : ChangeSpec := { name := "fnExactCheckRun", fn := fun _ => fun
  | [d1, d2, d3] => { results := [.lit (.bool true)], args := [d1, d2, d3] }
  | _ => none }
def fnExactCheckRunRow : OpenClaim := { program := "ytkfnlnohgfpipaagreat", sum := "dfb7d1ffd3f795433b8a405773cf55118394d9b98500eb88348ae03af92454b7", func := "loop.example/g00649/laws.FnExactCheckRun", spec := "fnExactCheckRun", unfollowed := true, recurses := true, named := ["math/bits.divideError", "math/bits.overflowError"], plainKeys := false, apart := false }
def FnExactCheckRunSaid : Prop := fnExactCheckRunRow.holds Tryz.pinned (OpenSpec.ofChange fnExactCheckRunSpec)

/-- ITS FALSE NEIGHBOUR: 'it returns false'. Refute it at one input. -/
def fnExactCheckRunWrong : ChangeSpec := { name := "fnExactCheckRun", fn := fun _ => fun
  | [d1, d2, d3] => { results := [.lit (.bool false)], args := [d1, d2, d3] }
  | _ => none }
def FnExactCheckRunWrongFalsely : Prop := fnExactCheckRunRow.holds Tryz.pinned (OpenSpec.ofChange fnExactCheckRunWrong)

/-- 'laws.FnExactTryEver': WHATEVER THE INPUT: true; the input reads as it did. -/
def fnExactTryEverSpec : ChangeSpec := { name := "fnExactTryEver", fn := fun _ => fun
  | [d1, d2] => { results := [.lit (.bool true)], args := [d1, d2] }
  | _ => none }
def fnExactTryEverRow : OpenClaim := { program := "ytkfnlnohgfpipaagreat", sum := "dfb7d1ffd3f795433b8a405773cf55118394d9b98500eb88348ae03af92454b7", func := "loop.example/g00649/laws.FnExactTryEver", spec := "fnExactTryEver", unfollowed := true, recurses := true, named := ["math/bits.divideError", "math/bits.overflowError"], plainKeys := false, apart := false }
def FnExactTryEverSaid : Prop := fnExactTryEverRow.holds Tryz.pinned (OpenSpec.ofChange fnExactTryEverSpec)

/-- ITS FALSE NEIGHBOUR: 'it returns false'. Refute it at one input. -/
def fnExactTryEverWrong : ChangeSpec := { name := "fnExactTryEver", fn := fun _ => fun
  | [d1, d2] => { results := [.lit (.bool false)], args := [d1, d2] }
  | _ => none }
def FnExactTryEverWrongFalsely : Prop := fnExactTryEverRow.holds Tryz.pinned (OpenSpec.ofChange fnExactTryEverWrong)

/-- 'laws.FnExactEver': WHATEVER THE INPUT: true; the input reads as it did. -/
def fnExactEverSpec : ChangeSpec := { name := "fnExactEver", fn := fun _ => fun
  | [d1, d2, d3] => { results := [.lit (.bool true)], args := [d1, d2, d3] }
  | _ => none }
def fnExactEverRow : OpenClaim := { program := "ytkfnlnohgfpipaagreat", sum := "dfb7d1ffd3f795433b8a405773cf55118394d9b98500eb88348ae03af92454b7", func := "loop.example/g00649/laws.FnExactEver", spec := "fnExactEver", unfollowed := true, recurses := true, named := ["math/bits.divideError", "math/bits.overflowError"], plainKeys := false, apart := false }
def FnExactEverSaid : Prop := fnExactEverRow.holds Tryz.pinned (OpenSpec.ofChange fnExactEverSpec)

/-- ITS FALSE NEIGHBOUR: 'it returns false'. Refute it at one input. -/
def fnExactEverWrong : ChangeSpec := { name := "fnExactEver", fn := fun _ => fun
  | [d1, d2, d3] => { results := [.lit (.bool false)], args := [d1, d2, d3] }
  | _ => none }
def FnExactEverWrongFalsely : Prop := fnExactEverRow.holds Tryz.pinned (OpenSpec.ofChange fnExactEverWrong)

/- THE SECOND FORM. 'bulk': how many values and letters a reading holds, each counted each time it is reached (what is shared counts as often as it is met; a slice's spare places count too). A statement '..UptoSaid' is the law's where the arguments, and the package variables that the reading takes, are together of bulk at most 1048576: NARROWER than '..Said'. Prove '..Said' where nothing that the law and all that it calls make is longer than what came in: it says more and counts as full. Else prove '..UptoSaid'. A law counts once. -/
mutual
def uptoBulk {H : Type} : DataW H → Nat
  | .lit (.string bytes) => bytes.length + 1
  | .lit _ => 1
  | .nil => 1
  | .ptr d => uptoBulk d + 1
  | .slice elems spare => uptoBulkAll elems + uptoBulkAll spare + 1
  | .agg parts => uptoBulkAll parts + 1
  | .iface _ d => uptoBulk d + 1
  | .map entries => uptoBulkEntries entries + 1
  | .held _ => 1
def uptoBulkAll {H : Type} : List (DataW H) → Nat
  | [] => 0
  | d :: r => uptoBulk d + uptoBulkAll r
def uptoBulkEntries {H : Type} : List (Lit × DataW H) → Nat
  | [] => 0
  | x :: r => uptoBulkEntry x + uptoBulkEntries r
def uptoBulkEntry {H : Type} : Lit × DataW H → Nat
  | (.string bytes, d) => bytes.length + uptoBulk d + 1
  | (_, d) => uptoBulk d + 1
 end
def uptoSmall : (H : Type) → List (DataW H) → Bool := fun _ ds => decide (uptoBulkAll ds ≤ 1048576)
def OpenSpec.upto (s : _root_.Go.ChangeSpec) : _root_.Go.OpenSpec := { _root_.Go.OpenSpec.ofChange s with cond := some uptoSmall }

/-- 'laws.FnExactSightFor', WHERE WHAT IT READS IS OF BULK AT MOST 1048576: true; the input reads as it did. -/
def fnExactSightForUptoRow : OpenClaim := { program := "ytkfnlnohgfpipaagreat", sum := "dfb7d1ffd3f795433b8a405773cf55118394d9b98500eb88348ae03af92454b7", func := "loop.example/g00649/laws.FnExactSightFor", spec := "fnExactSightFor", unfollowed := true, recurses := true, named := ["math/bits.divideError", "math/bits.overflowError"], plainKeys := false, apart := false, narrowed := true }
def FnExactSightForUptoSaid : Prop := fnExactSightForUptoRow.holds Tryz.pinned (OpenSpec.upto fnExactSightForSpec)

/-- 'laws.FnExactRealPath', WHERE WHAT IT READS IS OF BULK AT MOST 1048576: true; the input reads as it did. -/
def fnExactRealPathUptoRow : OpenClaim := { program := "ytkfnlnohgfpipaagreat", sum := "dfb7d1ffd3f795433b8a405773cf55118394d9b98500eb88348ae03af92454b7", func := "loop.example/g00649/laws.FnExactRealPath", spec := "fnExactRealPath", unfollowed := true, recurses := true, named := ["math/bits.divideError", "math/bits.overflowError"], plainKeys := false, apart := false, narrowed := true }
def FnExactRealPathUptoSaid : Prop := fnExactRealPathUptoRow.holds Tryz.pinned (OpenSpec.upto fnExactRealPathSpec)

/-- 'laws.FnExactRealLasso', WHERE WHAT IT READS IS OF BULK AT MOST 1048576: true; the input reads as it did. -/
def fnExactRealLassoUptoRow : OpenClaim := { program := "ytkfnlnohgfpipaagreat", sum := "dfb7d1ffd3f795433b8a405773cf55118394d9b98500eb88348ae03af92454b7", func := "loop.example/g00649/laws.FnExactRealLasso", spec := "fnExactRealLasso", unfollowed := true, recurses := true, named := ["math/bits.divideError", "math/bits.overflowError"], plainKeys := false, apart := false, narrowed := true }
def FnExactRealLassoUptoSaid : Prop := fnExactRealLassoUptoRow.holds Tryz.pinned (OpenSpec.upto fnExactRealLassoSpec)

/-- 'laws.FnExactNever', WHERE WHAT IT READS IS OF BULK AT MOST 1048576: true; the input reads as it did. -/
def fnExactNeverUptoRow : OpenClaim := { program := "ytkfnlnohgfpipaagreat", sum := "dfb7d1ffd3f795433b8a405773cf55118394d9b98500eb88348ae03af92454b7", func := "loop.example/g00649/laws.FnExactNever", spec := "fnExactNever", unfollowed := true, recurses := true, named := ["math/bits.divideError", "math/bits.overflowError"], plainKeys := false, apart := false, narrowed := true }
def FnExactNeverUptoSaid : Prop := fnExactNeverUptoRow.holds Tryz.pinned (OpenSpec.upto fnExactNeverSpec)

/-- 'laws.FnExactInvariant', WHERE WHAT IT READS IS OF BULK AT MOST 1048576: true; the input reads as it did. -/
def fnExactInvariantUptoRow : OpenClaim := { program := "ytkfnlnohgfpipaagreat", sum := "dfb7d1ffd3f795433b8a405773cf55118394d9b98500eb88348ae03af92454b7", func := "loop.example/g00649/laws.FnExactInvariant", spec := "fnExactInvariant", unfollowed := true, recurses := true, named := ["math/bits.divideError", "math/bits.overflowError"], plainKeys := false, apart := false, narrowed := true }
def FnExactInvariantUptoSaid : Prop := fnExactInvariantUptoRow.holds Tryz.pinned (OpenSpec.upto fnExactInvariantSpec)

/-- 'laws.FnExactCheckRun', WHERE WHAT IT READS IS OF BULK AT MOST 1048576: true; the input reads as it did. -/
def fnExactCheckRunUptoRow : OpenClaim := { program := "ytkfnlnohgfpipaagreat", sum := "dfb7d1ffd3f795433b8a405773cf55118394d9b98500eb88348ae03af92454b7", func := "loop.example/g00649/laws.FnExactCheckRun", spec := "fnExactCheckRun", unfollowed := true, recurses := true, named := ["math/bits.divideError", "math/bits.overflowError"], plainKeys := false, apart := false, narrowed := true }
def FnExactCheckRunUptoSaid : Prop := fnExactCheckRunUptoRow.holds Tryz.pinned (OpenSpec.upto fnExactCheckRunSpec)

/-- 'laws.FnExactTryEver', WHERE WHAT IT READS IS OF BULK AT MOST 1048576: true; the input reads as it did. -/
def fnExactTryEverUptoRow : OpenClaim := { program := "ytkfnlnohgfpipaagreat", sum := "dfb7d1ffd3f795433b8a405773cf55118394d9b98500eb88348ae03af92454b7", func := "loop.example/g00649/laws.FnExactTryEver", spec := "fnExactTryEver", unfollowed := true, recurses := true, named := ["math/bits.divideError", "math/bits.overflowError"], plainKeys := false, apart := false, narrowed := true }
def FnExactTryEverUptoSaid : Prop := fnExactTryEverUptoRow.holds Tryz.pinned (OpenSpec.upto fnExactTryEverSpec)

/-- 'laws.FnExactEver', WHERE WHAT IT READS IS OF BULK AT MOST 1048576: true; the input reads as it did. -/
def fnExactEverUptoRow : OpenClaim := { program := "ytkfnlnohgfpipaagreat", sum := "dfb7d1ffd3f795433b8a405773cf55118394d9b98500eb88348ae03af92454b7", func := "loop.example/g00649/laws.FnExactEver", spec := "fnExactEver", unfollowed := true, recurses := true, named := ["math/bits.divideError", "math/bits.overflowError"], plainKeys := false, apart := false, narrowed := true }
def FnExactEverUptoSaid : Prop := fnExactEverUptoRow.holds Tryz.pinned (OpenSpec.upto fnExactEverSpec)

end Rows
end Go.Proofs.YtkfnlnohgfpipaaGreat
