/-
  No cell of these rows narrows 'for every input' (looked for: loops, veiled, ifaces, maps, wideKeys, modest, calm, conditions, laid).
  DERIVED. THE GIVEN ROWS OF THIS SEAT. 8 by the template 'for every input the law returns true; each argument reads behind the call as it read before'; 0 by the template 'total and deterministic' (their statements: YtmfoobckeoaklaaGreatTotals.lean).
  GIVEN WITH THE SEED: the statements are not yours to turn. If you find one false, say at which input.
  Laid BY PROGRAM, IN A SANDBOX (cutbox-rows.mjs): the forced cells as the released guide's own fill.sh prints them over the translation c2598a74ee5b947c… (all of the seat's roots in one cut). By AI agents, Wed Nov 11 2026. No macro, syntax, notation, axiom, sorry.
-/
import Derived.Test.YtmfoobckeoaklaaGreatChecked
import GoSem.Claim
import GoSem.ClaimJoined
import GoSem.ClaimMapViews
import Derived.JoinedTies
import Derived.KernelRfl
namespace Go.Proofs.YtmfoobckeoaklaaGreat
/- THE CELL 'sum', in the pinned program and in every row, IS THE sha256 OF THE DUMP (.gsa) THAT YtmfoobckeoaklaaGreatProg.lean LOADS. Nothing in Lean hashes anything: it is a label: what it is worth is what the hold of that sum in a sandbox is worth. -/
noncomputable def Tryz.pinned : Pinned := { name := "ytmfoobckeoaklaagreat", sum := "c2598a74ee5b947c6cf111d90869a575711fd90a14b0796caf0dfa2bf979edf5", checked := Tryz.checked }
namespace Rows
def none {H : Type} : Left H := { results := [], args := [] }

/-- 'laws.FnExactClassReach': WHATEVER THE INPUT: true; the input reads as it did. -/
def fnExactClassReachSpec : ChangeSpec := { name := "fnExactClassReach", fn := fun _ => fun
  | [d1, d2] => { results := [.lit (.bool true)], args := [d1, d2] }
  | _ => none }
def fnExactClassReachRow : OpenClaim := { program := "ytmfoobckeoaklaagreat", sum := "c2598a74ee5b947c6cf111d90869a575711fd90a14b0796caf0dfa2bf979edf5", func := "loop.example/g00649/laws.FnExactClassReach", spec := "fnExactClassReach", unfollowed := true, recurses := true, named := ["math/bits.divideError", "math/bits.overflowError"], apart := false }
def FnExactClassReachSaid : Prop := fnExactClassReachRow.holds Tryz.pinned (OpenSpec.ofChange fnExactClassReachSpec)

/-- ITS FALSE NEIGHBOUR: 'it returns false'. Refute it at one input. -/
def fnExactClassReachWrong : ChangeSpec := { name := "fnExactClassReach", fn := fun _ => fun
  | [d1, d2] => { results := [.lit (.bool false)], args := [d1, d2] }
  | _ => none }
def FnExactClassReachWrongFalsely : Prop := fnExactClassReachRow.holds Tryz.pinned (OpenSpec.ofChange fnExactClassReachWrong)

/-- 'laws.FnExactSureNever': WHATEVER THE INPUT: true; the input reads as it did. -/
def fnExactSureNeverSpec : ChangeSpec := { name := "fnExactSureNever", fn := fun _ => fun
  | [d1, d2, d3] => { results := [.lit (.bool true)], args := [d1, d2, d3] }
  | _ => none }
def fnExactSureNeverRow : OpenClaim := { program := "ytmfoobckeoaklaagreat", sum := "c2598a74ee5b947c6cf111d90869a575711fd90a14b0796caf0dfa2bf979edf5", func := "loop.example/g00649/laws.FnExactSureNever", spec := "fnExactSureNever", unfollowed := true, recurses := true, named := ["math/bits.divideError", "math/bits.overflowError"], apart := false }
def FnExactSureNeverSaid : Prop := fnExactSureNeverRow.holds Tryz.pinned (OpenSpec.ofChange fnExactSureNeverSpec)

/-- ITS FALSE NEIGHBOUR: 'it returns false'. Refute it at one input. -/
def fnExactSureNeverWrong : ChangeSpec := { name := "fnExactSureNever", fn := fun _ => fun
  | [d1, d2, d3] => { results := [.lit (.bool false)], args := [d1, d2, d3] }
  | _ => none }
def FnExactSureNeverWrongFalsely : Prop := fnExactSureNeverRow.holds Tryz.pinned (OpenSpec.ofChange fnExactSureNeverWrong)

/-- 'laws.FnExactTryNever': WHATEVER THE INPUT: true; the input reads as it did. -/
def fnExactTryNeverSpec : ChangeSpec := { name := "fnExactTryNever", fn := fun _ => fun
  | [d1, d2, d3] => { results := [.lit (.bool true)], args := [d1, d2, d3] }
  | _ => none }
def fnExactTryNeverRow : OpenClaim := { program := "ytmfoobckeoaklaagreat", sum := "c2598a74ee5b947c6cf111d90869a575711fd90a14b0796caf0dfa2bf979edf5", func := "loop.example/g00649/laws.FnExactTryNever", spec := "fnExactTryNever", unfollowed := true, recurses := true, named := ["math/bits.divideError", "math/bits.overflowError"], apart := false }
def FnExactTryNeverSaid : Prop := fnExactTryNeverRow.holds Tryz.pinned (OpenSpec.ofChange fnExactTryNeverSpec)

/-- ITS FALSE NEIGHBOUR: 'it returns false'. Refute it at one input. -/
def fnExactTryNeverWrong : ChangeSpec := { name := "fnExactTryNever", fn := fun _ => fun
  | [d1, d2, d3] => { results := [.lit (.bool false)], args := [d1, d2, d3] }
  | _ => none }
def FnExactTryNeverWrongFalsely : Prop := fnExactTryNeverRow.holds Tryz.pinned (OpenSpec.ofChange fnExactTryNeverWrong)

/-- 'laws.FnExactIsFit': WHATEVER THE INPUT: true; the input reads as it did. -/
def fnExactIsFitSpec : ChangeSpec := { name := "fnExactIsFit", fn := fun _ => fun
  | [d1, d2] => { results := [.lit (.bool true)], args := [d1, d2] }
  | _ => none }
def fnExactIsFitRow : OpenClaim := { program := "ytmfoobckeoaklaagreat", sum := "c2598a74ee5b947c6cf111d90869a575711fd90a14b0796caf0dfa2bf979edf5", func := "loop.example/g00649/laws.FnExactIsFit", spec := "fnExactIsFit", unfollowed := true, recurses := true, named := ["math/bits.divideError", "math/bits.overflowError"], apart := false }
def FnExactIsFitSaid : Prop := fnExactIsFitRow.holds Tryz.pinned (OpenSpec.ofChange fnExactIsFitSpec)

/-- ITS FALSE NEIGHBOUR: 'it returns false'. Refute it at one input. -/
def fnExactIsFitWrong : ChangeSpec := { name := "fnExactIsFit", fn := fun _ => fun
  | [d1, d2] => { results := [.lit (.bool false)], args := [d1, d2] }
  | _ => none }
def FnExactIsFitWrongFalsely : Prop := fnExactIsFitRow.holds Tryz.pinned (OpenSpec.ofChange fnExactIsFitWrong)

/-- 'laws.FnExactClassLetter': WHATEVER THE INPUT: true; the input reads as it did. -/
def fnExactClassLetterSpec : ChangeSpec := { name := "fnExactClassLetter", fn := fun _ => fun
  | [d1, d2, d3] => { results := [.lit (.bool true)], args := [d1, d2, d3] }
  | _ => none }
def fnExactClassLetterRow : OpenClaim := { program := "ytmfoobckeoaklaagreat", sum := "c2598a74ee5b947c6cf111d90869a575711fd90a14b0796caf0dfa2bf979edf5", func := "loop.example/g00649/laws.FnExactClassLetter", spec := "fnExactClassLetter", unfollowed := true, recurses := true, named := ["math/bits.divideError", "math/bits.overflowError"], apart := false }
def FnExactClassLetterSaid : Prop := fnExactClassLetterRow.holds Tryz.pinned (OpenSpec.ofChange fnExactClassLetterSpec)

/-- ITS FALSE NEIGHBOUR: 'it returns false'. Refute it at one input. -/
def fnExactClassLetterWrong : ChangeSpec := { name := "fnExactClassLetter", fn := fun _ => fun
  | [d1, d2, d3] => { results := [.lit (.bool false)], args := [d1, d2, d3] }
  | _ => none }
def FnExactClassLetterWrongFalsely : Prop := fnExactClassLetterRow.holds Tryz.pinned (OpenSpec.ofChange fnExactClassLetterWrong)

/-- 'laws.FnExactCheckRun': WHATEVER THE INPUT: true; the input reads as it did. -/
def fnExactCheckRunSpec : ChangeSpec := { name := "fnExactCheckRun", fn := fun _ => fun
  | [d1, d2, d3] => { results := [.lit (.bool true)], args := [d1, d2, d3] }
  | _ => none }
def fnExactCheckRunRow : OpenClaim := { program := "ytmfoobckeoaklaagreat", sum := "c2598a74ee5b947c6cf111d90869a575711fd90a14b0796caf0dfa2bf979edf5", func := "loop.example/g00649/laws.FnExactCheckRun", spec := "fnExactCheckRun", unfollowed := true, recurses := true, named := ["math/bits.divideError", "math/bits.overflowError"], apart := false }
def FnExactCheckRunSaid : Prop := fnExactCheckRunRow.holds Tryz.pinned (OpenSpec.ofChange fnExactCheckRunSpec)

/-- ITS FALSE NEIGHBOUR: 'it returns false'. Refute it at one input. -/
def fnExactCheckRunWrong : ChangeSpec := { name := "fnExactCheckRun", fn := fun _ => fun
  | [d1, d2, d3] => { results := [.lit (.bool false)], args := [d1, d2, d3] }
  | _ => none }
def FnExactCheckRunWrongFalsely : Prop := fnExactCheckRunRow.holds Tryz.pinned (OpenSpec.ofChange fnExactCheckRunWrong)

/-- 'laws.FnExactClassBeside': WHATEVER THE INPUT: true; the input reads as it did. -/
def fnExactClassBesideSpec : ChangeSpec := { name := "fnExactClassBeside", fn := fun _ => fun
  | [d1, d2] => { results := [.lit (.bool true)], args := [d1, d2] }
  | _ => none }
def fnExactClassBesideRow : OpenClaim := { program := "ytmfoobckeoaklaagreat", sum := "c2598a74ee5b947c6cf111d90869a575711fd90a14b0796caf0dfa2bf979edf5", func := "loop.example/g00649/laws.FnExactClassBeside", spec := "fnExactClassBeside", unfollowed := true, recurses := true, named := ["math/bits.divideError", "math/bits.overflowError"], apart := false }
def FnExactClassBesideSaid : Prop := fnExactClassBesideRow.holds Tryz.pinned (OpenSpec.ofChange fnExactClassBesideSpec)

/-- ITS FALSE NEIGHBOUR: 'it returns false'. Refute it at one input. -/
def fnExactClassBesideWrong : ChangeSpec := { name := "fnExactClassBeside", fn := fun _ => fun
  | [d1, d2] => { results := [.lit (.bool false)], args := [d1, d2] }
  | _ => none }
def FnExactClassBesideWrongFalsely : Prop := fnExactClassBesideRow.holds Tryz.pinned (OpenSpec.ofChange fnExactClassBesideWrong)

/-- 'laws.FnExactTryEver': WHATEVER THE INPUT: true; the input reads as it did. -/
def fnExactTryEverSpec : ChangeSpec := { name := "fnExactTryEver", fn := fun _ => fun
  | [d1, d2] => { results := [.lit (.bool true)], args := [d1, d2] }
  | _ => none }
def fnExactTryEverRow : OpenClaim := { program := "ytmfoobckeoaklaagreat", sum := "c2598a74ee5b947c6cf111d90869a575711fd90a14b0796caf0dfa2bf979edf5", func := "loop.example/g00649/laws.FnExactTryEver", spec := "fnExactTryEver", unfollowed := true, recurses := true, named := ["math/bits.divideError", "math/bits.overflowError"], apart := false }
def FnExactTryEverSaid : Prop := fnExactTryEverRow.holds Tryz.pinned (OpenSpec.ofChange fnExactTryEverSpec)

/-- ITS FALSE NEIGHBOUR: 'it returns false'. Refute it at one input. -/
def fnExactTryEverWrong : ChangeSpec := { name := "fnExactTryEver", fn := fun _ => fun
  | [d1, d2] => { results := [.lit (.bool false)], args := [d1, d2] }
  | _ => none }
def FnExactTryEverWrongFalsely : Prop := fnExactTryEverRow.holds Tryz.pinned (OpenSpec.ofChange fnExactTryEverWrong)

/- THE SECOND FORM. 'bulk': how many values and letters a reading holds, each counted each time it is reached (what is shared counts as often as it is met; a slice's spare places count too). A statement '..UptoSaid' is the law's where the arguments, and the package variables that the reading takes, are together of bulk at most 1048576: NARROWER than '..Said'. Prove '..Said' where nothing that the law and all that it calls make is longer than what came in: it says more and counts as full. Else prove '..UptoSaid'. A law counts once. -/
mutual
def uptoBulk {H : Type} : DataW H → Nat
  | .lit (.string bytes) => bytes.length + 1
  | .lit _ => 1
  | .nil => 1
  | .ptr d => uptoBulk d + 1
  | .slice elems spare => uptoBulkAll elems + uptoBulkAll spare + 1
  | .agg parts => uptoBulkAll parts + 1
  | .iface _ d => uptoBulk d + 1
  | .map entries => uptoBulkEntries entries + 1
  | .held _ => 1
def uptoBulkAll {H : Type} : List (DataW H) → Nat
  | [] => 0
  | d :: r => uptoBulk d + uptoBulkAll r
def uptoBulkEntries {H : Type} : List (Lit × DataW H) → Nat
  | [] => 0
  | x :: r => uptoBulkEntry x + uptoBulkEntries r
def uptoBulkEntry {H : Type} : Lit × DataW H → Nat
  | (.string bytes, d) => bytes.length + uptoBulk d + 1
  | (_, d) => uptoBulk d + 1
 end
def uptoSmall : (H : Type) → List (DataW H) → Bool := fun _ ds => decide (uptoBulkAll ds ≤ 1048576)
def OpenSpec.upto (s : _root_.Go.ChangeSpec) : _root_.Go.OpenSpec := { _root_.Go.OpenSpec.ofChange s with cond := some uptoSmall }

/-- 'laws.FnExactClassReach', WHERE WHAT IT READS IS OF BULK AT MOST 1048576: true; the input reads as it did. -/
def fnExactClassReachUptoRow : OpenClaim := { program := "ytmfoobckeoaklaagreat", sum := "c2598a74ee5b947c6cf111d90869a575711fd90a14b0796caf0dfa2bf979edf5", func := "loop.example/g00649/laws.FnExactClassReach", spec := "fnExactClassReach", unfollowed := true, recurses := true, named := ["math/bits.divideError", "math/bits.overflowError"], apart := false, narrowed := true }
def FnExactClassReachUptoSaid : Prop := fnExactClassReachUptoRow.holds Tryz.pinned (OpenSpec.upto fnExactClassReachSpec)

/-- 'laws.FnExactSureNever', WHERE WHAT IT READS IS OF BULK AT MOST 1048576: true; the input reads as it did. -/
def fnExactSureNeverUptoRow : OpenClaim := { program := "ytmfoobckeoaklaagreat", sum := "c2598a74ee5b947c6cf111d90869a575711fd90a14b0796caf0dfa2bf979edf5", func := "loop.example/g00649/laws.FnExactSureNever", spec := "fnExactSureNever", unfollowed := true, recurses := true, named := ["math/bits.divideError", "math/bits.overflowError"], apart := false, narrowed := true }
def FnExactSureNeverUptoSaid : Prop := fnExactSureNeverUptoRow.holds Tryz.pinned (OpenSpec.upto fnExactSureNeverSpec)

/-- 'laws.FnExactTryNever', WHERE WHAT IT READS IS OF BULK AT MOST 1048576: true; the input reads as it did. -/
def fnExactTryNeverUptoRow : OpenClaim := { program := "ytmfoobckeoaklaagreat", sum := "c2598a74ee5b947c6cf111d90869a575711fd90a14b0796caf0dfa2bf979edf5", func := "loop.example/g00649/laws.FnExactTryNever", spec := "fnExactTryNever", unfollowed := true, recurses := true, named := ["math/bits.divideError", "math/bits.overflowError"], apart := false, narrowed := true }
def FnExactTryNeverUptoSaid : Prop := fnExactTryNeverUptoRow.holds Tryz.pinned (OpenSpec.upto fnExactTryNeverSpec)

/-- 'laws.FnExactIsFit', WHERE WHAT IT READS IS OF BULK AT MOST 1048576: true; the input reads as it did. -/
def fnExactIsFitUptoRow : OpenClaim := { program := "ytmfoobckeoaklaagreat", sum := "c2598a74ee5b947c6cf111d90869a575711fd90a14b0796caf0dfa2bf979edf5", func := "loop.example/g00649/laws.FnExactIsFit", spec := "fnExactIsFit", unfollowed := true, recurses := true, named := ["math/bits.divideError", "math/bits.overflowError"], apart := false, narrowed := true }
def FnExactIsFitUptoSaid : Prop := fnExactIsFitUptoRow.holds Tryz.pinned (OpenSpec.upto fnExactIsFitSpec)

/-- 'laws.FnExactClassLetter', WHERE WHAT IT READS IS OF BULK AT MOST 1048576: true; the input reads as it did. -/
def fnExactClassLetterUptoRow : OpenClaim := { program := "ytmfoobckeoaklaagreat", sum := "c2598a74ee5b947c6cf111d90869a575711fd90a14b0796caf0dfa2bf979edf5", func := "loop.example/g00649/laws.FnExactClassLetter", spec := "fnExactClassLetter", unfollowed := true, recurses := true, named := ["math/bits.divideError", "math/bits.overflowError"], apart := false, narrowed := true }
def FnExactClassLetterUptoSaid : Prop := fnExactClassLetterUptoRow.holds Tryz.pinned (OpenSpec.upto fnExactClassLetterSpec)

/-- 'laws.FnExactCheckRun', WHERE WHAT IT READS IS OF BULK AT MOST 1048576: true; the input reads as it did. -/
def fnExactCheckRunUptoRow : OpenClaim := { program := "ytmfoobckeoaklaagreat", sum := "c2598a74ee5b947c6cf111d90869a575711fd90a14b0796caf0dfa2bf979edf5", func := "loop.example/g00649/laws.FnExactCheckRun", spec := "fnExactCheckRun", unfollowed := true, recurses := true, named := ["math/bits.divideError", "math/bits.overflowError"], apart := false, narrowed := true }
def FnExactCheckRunUptoSaid : Prop := fnExactCheckRunUptoRow.holds Tryz.pinned (OpenSpec.upto fnExactCheckRunSpec)

/-- 'laws.FnExactClassBeside', WHERE WHAT IT READS IS OF BULK AT MOST 1048576: true; the input reads as it did. -/
def fnExactClassBesideUptoRow : OpenClaim := { program := "ytmfoobckeoaklaagreat", sum := "c2598a74ee5b947c6cf111d90869a575711fd90a14b0796caf0dfa2bf979edf5", func := "loop.example/g00649/laws.FnExactClassBeside", spec := "fnExactClassBeside", unfollowed := true, recurses := true, named := ["math/bits.divideError", "math/bits.overflowError"], apart := false, narrowed := true }
def FnExactClassBesideUptoSaid : Prop := fnExactClassBesideUptoRow.holds Tryz.pinned (OpenSpec.upto fnExactClassBesideSpec)

/-- 'laws.FnExactTryEver', WHERE WHAT IT READS IS OF BULK AT MOST 1048576: true; the input reads as it did. -/
def fnExactTryEverUptoRow : OpenClaim := { program := "ytmfoobckeoaklaagreat", sum := "c2598a74ee5b947c6cf111d90869a575711fd90a14b0796caf0dfa2bf979edf5", func := "loop.example/g00649/laws.FnExactTryEver", spec := "fnExactTryEver", unfollowed := true, recurses := true, named := ["math/bits.divideError", "math/bits.overflowError"], apart := false, narrowed := true }
def FnExactTryEverUptoSaid : Prop := fnExactTryEverUptoRow.holds Tryz.pinned (OpenSpec.upto fnExactTryEverSpec)

end Rows
end Go.Proofs.YtmfoobckeoaklaaGreat
