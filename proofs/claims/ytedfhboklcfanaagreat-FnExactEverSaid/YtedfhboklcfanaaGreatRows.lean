/-
  No cell of these rows narrows 'for every input' (looked for: loops, veiled, ifaces, maps, wideKeys, modest, calm, conditions, laid).
  DERIVED. THE GIVEN ROWS OF THIS SEAT. 3 by the template 'for every input the law returns true; each argument reads behind the call as it read before'; 0 by the template 'total and deterministic' (their statements: YtedfhboklcfanaaGreatTotals.lean).
  GIVEN WITH THE SEED: the statements are not yours to turn. If you find one false, say at which input.
  Laid BY PROGRAM, IN A SANDBOX (cutbox-rows.mjs): the forced cells as the released guide's own fill.sh prints them over the translation d4b008cb27cde067… (all of the seat's roots in one cut). By AI agents, Wed Nov 11 2026. No macro, syntax, notation, axiom, sorry.
-/
import Derived.Test.YtedfhboklcfanaaGreatChecked
import GoSem.Claim
import GoSem.ClaimJoined
import GoSem.ClaimMapViews
import Derived.JoinedTies
import Derived.KernelRfl
namespace Go.Proofs.YtedfhboklcfanaaGreat
/- THE CELL 'sum', in the pinned program and in every row, IS THE sha256 OF THE DUMP (.gsa) THAT YtedfhboklcfanaaGreatProg.lean LOADS. Nothing in Lean hashes anything: it is a label: what it is worth is what the hold of that sum in a sandbox is worth. -/
noncomputable def Tryz.pinned : Pinned := { name := "ytedfhboklcfanaagreat", sum := "d4b008cb27cde067045502f2d8cfbce53eb91d97066c4ebb3beec332acbd015c", checked := Tryz.checked }
namespace Rows
def none {H : Type} : Left H := { results := [], args := [] }

/-- 'laws.FnExactCheckRun': WHATEVER THE INPUT: true; the input reads as it did. -/
def fnExactCheckRunSpec : ChangeSpec := { name := "fnExactCheckRun", fn := fun _ => fun
  | [d1, d2, d3] => { results := [.lit (.bool true)], args := [d1, d2, d3] }
  | _ => none }
def fnExactCheckRunRow : OpenClaim := { program := "ytedfhboklcfanaagreat", sum := "d4b008cb27cde067045502f2d8cfbce53eb91d97066c4ebb3beec332acbd015c", func := "loop.example/g00649/laws.FnExactCheckRun", spec := "fnExactCheckRun", unfollowed := true, recurses := true, named := ["math/bits.divideError", "math/bits.overflowError"], plainKeys := false, apart := false }
def FnExactCheckRunSaid : Prop := fnExactCheckRunRow.holds Tryz.pinned (OpenSpec.ofChange fnExactCheckRunSpec)

/-- ITS FALSE NEIGHBOUR: 'it returns false'. Refute it at one input. -/
def fnExactCheckRunWrong : ChangeSpec := { name := "fnExactCheckRun", fn := fun _ => fun
  | [d1, d2, d3] => { results := [.lit (.bool false)], args := [d1, d2, d3] }
  | _ => none }
def FnExactCheckRunWrongFalsely : Prop := fnExactCheckRunRow.holds Tryz.pinned (OpenSpec.ofChange fnExactCheckRunWrong)

/-- 'laws.FnExactTryEver': WHATEVER THE INPUT: true; the input reads as it did. -/
def fnExactTryEverSpec : ChangeSpec := { name := "fnExactTryEver", fn := fun _ => fun
  | [d1, d2] => { results := [.lit (.bool true)], args := [d1, d2] }
  | _ => none }
def fnExactTryEverRow : OpenClaim := { program := "ytedfhboklcfanaagreat", sum := "d4b008cb27cde067045502f2d8cfbce53eb91d97066c4ebb3beec332acbd015c", func := "loop.example/g00649/laws.FnExactTryEver", spec := "fnExactTryEver", unfollowed := true, recurses := true, named := ["math/bits.divideError", "math/bits.overflowError"], plainKeys := false, apart := false }
def FnExactTryEverSaid : Prop := fnExactTryEverRow.holds Tryz.pinned (OpenSpec.ofChange fnExactTryEverSpec)

/-- ITS FALSE NEIGHBOUR: 'it returns false'. Refute it at one input. -/
def fnExactTryEverWrong : ChangeSpec := { name := "fnExactTryEver", fn := fun _ => fun
  | [d1, d2] => { results := [.lit (.bool false)], args := [d1, d2] }
  | _ => none }
def FnExactTryEverWrongFalsely : Prop := fnExactTryEverRow.holds Tryz.pinned (OpenSpec.ofChange fnExactTryEverWrong)

/-- 'laws.FnExactEver': WHATEVER THE INPUT: true; the input reads as it did. -/
def fnExactEverSpec : ChangeSpec := { name := "fnExactEver", fn := fun _ => fun
  | [d1, d2, d3] => { results := [.lit (.bool true)], args := [d1, d2, d3] }
  | _ => none }
def fnExactEverRow : OpenClaim := { program := "ytedfhboklcfanaagreat", sum := "d4b008cb27cde067045502f2d8cfbce53eb91d97066c4ebb3beec332acbd015c", func := "loop.example/g00649/laws.FnExactEver", spec := "fnExactEver", unfollowed := true, recurses := true, named := ["math/bits.divideError", "math/bits.overflowError"], plainKeys := false, apart := false }
def FnExactEverSaid : Prop := fnExactEverRow.holds Tryz.pinned (OpenSpec.ofChange fnExactEverSpec)

/-- ITS FALSE NEIGHBOUR: 'it returns false'. Refute it at one input. -/
def fnExactEverWrong : ChangeSpec := { name := "fnExactEver", fn := fun _ => fun
  | [d1, d2, d3] => { results := [.lit (.bool false)], args := [d1, d2, d3] }
  | _ => none }
def FnExactEverWrongFalsely : Prop := fnExactEverRow.holds Tryz.pinned (OpenSpec.ofChange fnExactEverWrong)

/- THE SECOND FORM. 'bulk': how many values and letters a reading holds, each counted each time it is reached (what is shared counts as often as it is met; a slice's spare places count too). A statement '..UptoSaid' is the law's where the arguments, and the package variables that the reading takes, are together of bulk at most 1048576: NARROWER than '..Said'. Prove '..Said' where nothing that the law and all that it calls make is longer than what came in: it says more and counts as full. Else prove '..UptoSaid'. A law counts once. -/
mutual
def uptoBulk {H : Type} : DataW H → Nat
  | .lit (.string bytes) => bytes.length + 1
  | .lit _ => 1
  | .nil => 1
  | .ptr d => uptoBulk d + 1
  | .slice elems spare => uptoBulkAll elems + uptoBulkAll spare + 1
  | .agg parts => uptoBulkAll parts + 1
  | .iface _ d => uptoBulk d + 1
  | .map entries => uptoBulkEntries entries + 1
  | .held _ => 1
def uptoBulkAll {H : Type} : List (DataW H) → Nat
  | [] => 0
  | d :: r => uptoBulk d + uptoBulkAll r
def uptoBulkEntries {H : Type} : List (Lit × DataW H) → Nat
  | [] => 0
  | x :: r => uptoBulkEntry x + uptoBulkEntries r
def uptoBulkEntry {H : Type} : Lit × DataW H → Nat
  | (.string bytes, d) => bytes.length + uptoBulk d + 1
  | (_, d) => uptoBulk d + 1
 end
def uptoSmall : (H : Type) → List (DataW H) → Bool := fun _ ds => decide (uptoBulkAll ds ≤ 1048576)
def OpenSpec.upto (s : _root_.Go.ChangeSpec) : _root_.Go.OpenSpec := { _root_.Go.OpenSpec.ofChange s with cond := some uptoSmall }

/-- 'laws.FnExactCheckRun', WHERE WHAT IT READS IS OF BULK AT MOST 1048576: true; the input reads as it did. -/
def fnExactCheckRunUptoRow : OpenClaim := { program := "ytedfhboklcfanaagreat", sum := "d4b008cb27cde067045502f2d8cfbce53eb91d97066c4ebb3beec332acbd015c", func := "loop.example/g00649/laws.FnExactCheckRun", spec := "fnExactCheckRun", unfollowed := true, recurses := true, named := ["math/bits.divideError", "math/bits.overflowError"], plainKeys := false, apart := false, narrowed := true }
def FnExactCheckRunUptoSaid : Prop := fnExactCheckRunUptoRow.holds Tryz.pinned (OpenSpec.upto fnExactCheckRunSpec)

/-- 'laws.FnExactTryEver', WHERE WHAT IT READS IS OF BULK AT MOST 1048576: true; the input reads as it did. -/
def fnExactTryEverUptoRow : OpenClaim := { program := "ytedfhboklcfanaagreat", sum := "d4b008cb27cde067045502f2d8cfbce53eb91d97066c4ebb3beec332acbd015c", func := "loop.example/g00649/laws.FnExactTryEver", spec := "fnExactTryEver", unfollowed := true, recurses := true, named := ["math/bits.divideError", "math/bits.overflowError"], plainKeys := false, apart := false, narrowed := true }
def FnExactTryEverUptoSaid : Prop := fnExactTryEverUptoRow.holds Tryz.pinned (OpenSpec.upto fnExactTryEverSpec)

/-- 'laws.FnExactEver', WHERE WHAT IT READS IS OF BULK AT MOST 1048576: true; the input reads as it did. -/
def fnExactEverUptoRow : OpenClaim := { program := "ytedfhboklcfanaagreat", sum := "d4b008cb27cde067045502f2d8cfbce53eb91d97066c4ebb3beec332acbd015c", func := "loop.example/g00649/laws.FnExactEver", spec := "fnExactEver", unfollowed := true, recurses := true, named := ["math/bits.divideError", "math/bits.overflowError"], plainKeys := false, apart := false, narrowed := true }
def FnExactEverUptoSaid : Prop := fnExactEverUptoRow.holds Tryz.pinned (OpenSpec.upto fnExactEverSpec)

end Rows
end Go.Proofs.YtedfhboklcfanaaGreat
