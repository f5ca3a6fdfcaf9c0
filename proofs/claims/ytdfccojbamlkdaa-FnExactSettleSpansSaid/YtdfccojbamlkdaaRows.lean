/-
  No cell of these rows narrows 'for every input' (looked for: loops, veiled, ifaces, maps, wideKeys, modest, calm, conditions, laid).
  DERIVED. THE GIVEN ROWS OF THIS SEAT. 11 by the template 'for every input the law returns true; each argument reads behind the call as it read before'; 0 by the template 'total and deterministic' (their statements: YtdfccojbamlkdaaTotals.lean).
  GIVEN WITH THE SEED: the statements are not yours to turn. If you find one false, say at which input.
  Laid BY PROGRAM, IN A SANDBOX (cutbox-rows.mjs): the forced cells as the released guide's own fill.sh prints them over the translation cf31325d34aae784… (all of the seat's roots in one cut). By AI agents, Wed Nov 11 2026. No macro, syntax, notation, axiom, sorry.
-/
import Derived.Test.YtdfccojbamlkdaaChecked
import GoSem.Claim
import GoSem.ClaimJoined
import GoSem.ClaimMapViews
import Derived.JoinedTies
import Derived.KernelRfl
namespace Go.Proofs.Ytdfccojbamlkdaa
/- THE CELL 'sum', in the pinned program and in every row, IS THE sha256 OF THE DUMP (.gsa) THAT YtdfccojbamlkdaaProg.lean LOADS. Nothing in Lean hashes anything: it is a label: what it is worth is what the hold of that sum in a sandbox is worth. -/
noncomputable def Try.pinned : Pinned := { name := "ytdfccojbamlkdaa", sum := "cf31325d34aae7843c822f472d20bd66c883d6b950f83952176aac3d8c8397c4", checked := Try.checked }
namespace Rows
def none {H : Type} : Left H := { results := [], args := [] }

/-- 'laws.FnExactImpliesIn': WHATEVER THE INPUT: true; the input reads as it did. -/
def fnExactImpliesInSpec : ChangeSpec := { name := "fnExactImpliesIn", fn := fun _ => fun
  | [d1, d2, d3] => { results := [.lit (.bool true)], args := [d1, d2, d3] }
  | _ => none }
def fnExactImpliesInRow : OpenClaim := { program := "ytdfccojbamlkdaa", sum := "cf31325d34aae7843c822f472d20bd66c883d6b950f83952176aac3d8c8397c4", func := "loop.example/g00649/laws.FnExactImpliesIn", spec := "fnExactImpliesIn", unfollowed := true, recurses := true, named := ["math/bits.divideError", "math/bits.overflowError"], apart := false }
def FnExactImpliesInSaid : Prop := fnExactImpliesInRow.holds Try.pinned (OpenSpec.ofChange fnExactImpliesInSpec)

/-- ITS FALSE NEIGHBOUR: 'it returns false'. Refute it at one input. -/
def fnExactImpliesInWrong : ChangeSpec := { name := "fnExactImpliesIn", fn := fun _ => fun
  | [d1, d2, d3] => { results := [.lit (.bool false)], args := [d1, d2, d3] }
  | _ => none }
def FnExactImpliesInWrongFalsely : Prop := fnExactImpliesInRow.holds Try.pinned (OpenSpec.ofChange fnExactImpliesInWrong)

/-- 'laws.FnExactSameIn': WHATEVER THE INPUT: true; the input reads as it did. -/
def fnExactSameInSpec : ChangeSpec := { name := "fnExactSameIn", fn := fun _ => fun
  | [d1, d2, d3] => { results := [.lit (.bool true)], args := [d1, d2, d3] }
  | _ => none }
def fnExactSameInRow : OpenClaim := { program := "ytdfccojbamlkdaa", sum := "cf31325d34aae7843c822f472d20bd66c883d6b950f83952176aac3d8c8397c4", func := "loop.example/g00649/laws.FnExactSameIn", spec := "fnExactSameIn", unfollowed := true, recurses := true, named := ["math/bits.divideError", "math/bits.overflowError"], apart := false }
def FnExactSameInSaid : Prop := fnExactSameInRow.holds Try.pinned (OpenSpec.ofChange fnExactSameInSpec)

/-- ITS FALSE NEIGHBOUR: 'it returns false'. Refute it at one input. -/
def fnExactSameInWrong : ChangeSpec := { name := "fnExactSameIn", fn := fun _ => fun
  | [d1, d2, d3] => { results := [.lit (.bool false)], args := [d1, d2, d3] }
  | _ => none }
def FnExactSameInWrongFalsely : Prop := fnExactSameInRow.holds Try.pinned (OpenSpec.ofChange fnExactSameInWrong)

/-- 'laws.FnExactKeepsOut': WHATEVER THE INPUT: true; the input reads as it did. -/
def fnExactKeepsOutSpec : ChangeSpec := { name := "fnExactKeepsOut", fn := fun _ => fun
  | [d1, d2, d3] => { results := [.lit (.bool true)], args := [d1, d2, d3] }
  | _ => none }
def fnExactKeepsOutRow : OpenClaim := { program := "ytdfccojbamlkdaa", sum := "cf31325d34aae7843c822f472d20bd66c883d6b950f83952176aac3d8c8397c4", func := "loop.example/g00649/laws.FnExactKeepsOut", spec := "fnExactKeepsOut", unfollowed := true, recurses := true, named := ["math/bits.divideError", "math/bits.overflowError"], apart := false }
def FnExactKeepsOutSaid : Prop := fnExactKeepsOutRow.holds Try.pinned (OpenSpec.ofChange fnExactKeepsOutSpec)

/-- ITS FALSE NEIGHBOUR: 'it returns false'. Refute it at one input. -/
def fnExactKeepsOutWrong : ChangeSpec := { name := "fnExactKeepsOut", fn := fun _ => fun
  | [d1, d2, d3] => { results := [.lit (.bool false)], args := [d1, d2, d3] }
  | _ => none }
def FnExactKeepsOutWrongFalsely : Prop := fnExactKeepsOutRow.holds Try.pinned (OpenSpec.ofChange fnExactKeepsOutWrong)

/-- 'laws.FnExactSeparates': WHATEVER THE INPUT: true; the input reads as it did. -/
def fnExactSeparatesSpec : ChangeSpec := { name := "fnExactSeparates", fn := fun _ => fun
  | [d1, d2, d3, d4] => { results := [.lit (.bool true)], args := [d1, d2, d3, d4] }
  | _ => none }
def fnExactSeparatesRow : OpenClaim := { program := "ytdfccojbamlkdaa", sum := "cf31325d34aae7843c822f472d20bd66c883d6b950f83952176aac3d8c8397c4", func := "loop.example/g00649/laws.FnExactSeparates", spec := "fnExactSeparates", unfollowed := true, recurses := true, named := ["math/bits.divideError", "math/bits.overflowError"], apart := false }
def FnExactSeparatesSaid : Prop := fnExactSeparatesRow.holds Try.pinned (OpenSpec.ofChange fnExactSeparatesSpec)

/-- ITS FALSE NEIGHBOUR: 'it returns false'. Refute it at one input. -/
def fnExactSeparatesWrong : ChangeSpec := { name := "fnExactSeparates", fn := fun _ => fun
  | [d1, d2, d3, d4] => { results := [.lit (.bool false)], args := [d1, d2, d3, d4] }
  | _ => none }
def FnExactSeparatesWrongFalsely : Prop := fnExactSeparatesRow.holds Try.pinned (OpenSpec.ofChange fnExactSeparatesWrong)

/-- 'laws.FnExactDropPoint': WHATEVER THE INPUT: true; the input reads as it did. -/
def fnExactDropPointSpec : ChangeSpec := { name := "fnExactDropPoint", fn := fun _ => fun
  | [d1, d2] => { results := [.lit (.bool true)], args := [d1, d2] }
  | _ => none }
def fnExactDropPointRow : OpenClaim := { program := "ytdfccojbamlkdaa", sum := "cf31325d34aae7843c822f472d20bd66c883d6b950f83952176aac3d8c8397c4", func := "loop.example/g00649/laws.FnExactDropPoint", spec := "fnExactDropPoint", unfollowed := true, recurses := true, apart := false }
def FnExactDropPointSaid : Prop := fnExactDropPointRow.holds Try.pinned (OpenSpec.ofChange fnExactDropPointSpec)

/-- ITS FALSE NEIGHBOUR: 'it returns false'. Refute it at one input. -/
def fnExactDropPointWrong : ChangeSpec := { name := "fnExactDropPoint", fn := fun _ => fun
  | [d1, d2] => { results := [.lit (.bool false)], args := [d1, d2] }
  | _ => none }
def FnExactDropPointWrongFalsely : Prop := fnExactDropPointRow.holds Try.pinned (OpenSpec.ofChange fnExactDropPointWrong)

/-- 'laws.FnExactPathClasses': WHATEVER THE INPUT: true; the input reads as it did. -/
def fnExactPathClassesSpec : ChangeSpec := { name := "fnExactPathClasses", fn := fun _ => fun
  | [d1, d2, d3] => { results := [.lit (.bool true)], args := [d1, d2, d3] }
  | _ => none }
def fnExactPathClassesRow : OpenClaim := { program := "ytdfccojbamlkdaa", sum := "cf31325d34aae7843c822f472d20bd66c883d6b950f83952176aac3d8c8397c4", func := "loop.example/g00649/laws.FnExactPathClasses", spec := "fnExactPathClasses", unfollowed := true, recurses := true, apart := false }
def FnExactPathClassesSaid : Prop := fnExactPathClassesRow.holds Try.pinned (OpenSpec.ofChange fnExactPathClassesSpec)

/-- ITS FALSE NEIGHBOUR: 'it returns false'. Refute it at one input. -/
def fnExactPathClassesWrong : ChangeSpec := { name := "fnExactPathClasses", fn := fun _ => fun
  | [d1, d2, d3] => { results := [.lit (.bool false)], args := [d1, d2, d3] }
  | _ => none }
def FnExactPathClassesWrongFalsely : Prop := fnExactPathClassesRow.holds Try.pinned (OpenSpec.ofChange fnExactPathClassesWrong)

/-- 'laws.FnExactAlongBefore': WHATEVER THE INPUT: true; the input reads as it did. -/
def fnExactAlongBeforeSpec : ChangeSpec := { name := "fnExactAlongBefore", fn := fun _ => fun
  | [d1, d2, d3] => { results := [.lit (.bool true)], args := [d1, d2, d3] }
  | _ => none }
def fnExactAlongBeforeRow : OpenClaim := { program := "ytdfccojbamlkdaa", sum := "cf31325d34aae7843c822f472d20bd66c883d6b950f83952176aac3d8c8397c4", func := "loop.example/g00649/laws.FnExactAlongBefore", spec := "fnExactAlongBefore", unfollowed := true, recurses := true, apart := false }
def FnExactAlongBeforeSaid : Prop := fnExactAlongBeforeRow.holds Try.pinned (OpenSpec.ofChange fnExactAlongBeforeSpec)

/-- ITS FALSE NEIGHBOUR: 'it returns false'. Refute it at one input. -/
def fnExactAlongBeforeWrong : ChangeSpec := { name := "fnExactAlongBefore", fn := fun _ => fun
  | [d1, d2, d3] => { results := [.lit (.bool false)], args := [d1, d2, d3] }
  | _ => none }
def FnExactAlongBeforeWrongFalsely : Prop := fnExactAlongBeforeRow.holds Try.pinned (OpenSpec.ofChange fnExactAlongBeforeWrong)

/-- 'laws.FnExactTryTerms': WHATEVER THE INPUT: true; the input reads as it did. -/
def fnExactTryTermsSpec : ChangeSpec := { name := "fnExactTryTerms", fn := fun _ => fun
  | [d1, d2] => { results := [.lit (.bool true)], args := [d1, d2] }
  | _ => none }
def fnExactTryTermsRow : OpenClaim := { program := "ytdfccojbamlkdaa", sum := "cf31325d34aae7843c822f472d20bd66c883d6b950f83952176aac3d8c8397c4", func := "loop.example/g00649/laws.FnExactTryTerms", spec := "fnExactTryTerms", unfollowed := true, recurses := true, apart := false }
def FnExactTryTermsSaid : Prop := fnExactTryTermsRow.holds Try.pinned (OpenSpec.ofChange fnExactTryTermsSpec)

/-- ITS FALSE NEIGHBOUR: 'it returns false'. Refute it at one input. -/
def fnExactTryTermsWrong : ChangeSpec := { name := "fnExactTryTerms", fn := fun _ => fun
  | [d1, d2] => { results := [.lit (.bool false)], args := [d1, d2] }
  | _ => none }
def FnExactTryTermsWrongFalsely : Prop := fnExactTryTermsRow.holds Try.pinned (OpenSpec.ofChange fnExactTryTermsWrong)

/-- 'laws.FnExactRoundAndRound': WHATEVER THE INPUT: true; the input reads as it did. -/
def fnExactRoundAndRoundSpec : ChangeSpec := { name := "fnExactRoundAndRound", fn := fun _ => fun
  | [d1, d2, d3, d4] => { results := [.lit (.bool true)], args := [d1, d2, d3, d4] }
  | _ => none }
def fnExactRoundAndRoundRow : OpenClaim := { program := "ytdfccojbamlkdaa", sum := "cf31325d34aae7843c822f472d20bd66c883d6b950f83952176aac3d8c8397c4", func := "loop.example/g00649/laws.FnExactRoundAndRound", spec := "fnExactRoundAndRound", unfollowed := true, recurses := true, apart := false }
def FnExactRoundAndRoundSaid : Prop := fnExactRoundAndRoundRow.holds Try.pinned (OpenSpec.ofChange fnExactRoundAndRoundSpec)

/-- ITS FALSE NEIGHBOUR: 'it returns false'. Refute it at one input. -/
def fnExactRoundAndRoundWrong : ChangeSpec := { name := "fnExactRoundAndRound", fn := fun _ => fun
  | [d1, d2, d3, d4] => { results := [.lit (.bool false)], args := [d1, d2, d3, d4] }
  | _ => none }
def FnExactRoundAndRoundWrongFalsely : Prop := fnExactRoundAndRoundRow.holds Try.pinned (OpenSpec.ofChange fnExactRoundAndRoundWrong)

/-- 'laws.FnExactSpanRound': WHATEVER THE INPUT: true; the input reads as it did. -/
def fnExactSpanRoundSpec : ChangeSpec := { name := "fnExactSpanRound", fn := fun _ => fun
  | [d1, d2] => { results := [.lit (.bool true)], args := [d1, d2] }
  | _ => none }
def fnExactSpanRoundRow : OpenClaim := { program := "ytdfccojbamlkdaa", sum := "cf31325d34aae7843c822f472d20bd66c883d6b950f83952176aac3d8c8397c4", func := "loop.example/g00649/laws.FnExactSpanRound", spec := "fnExactSpanRound", inPlace := ["math/bits.Add64"], unfollowed := true, recurses := true, apart := false }
def FnExactSpanRoundSaid : Prop := fnExactSpanRoundRow.holds Try.pinned (OpenSpec.ofChange fnExactSpanRoundSpec)

/-- ITS FALSE NEIGHBOUR: 'it returns false'. Refute it at one input. -/
def fnExactSpanRoundWrong : ChangeSpec := { name := "fnExactSpanRound", fn := fun _ => fun
  | [d1, d2] => { results := [.lit (.bool false)], args := [d1, d2] }
  | _ => none }
def FnExactSpanRoundWrongFalsely : Prop := fnExactSpanRoundRow.holds Try.pinned (OpenSpec.ofChange fnExactSpanRoundWrong)

/-- 'laws.FnExactSettleSpans': WHATEVER THE INPUT: true; the input reads as it did. -/
def fnExactSettleSpansSpec : ChangeSpec := { name := "fnExactSettleSpans", fn := fun _ => fun
  | [d1, d2, d3] => { results := [.lit (.bool true)], args := [d1, d2, d3] }
  | _ => none }
def fnExactSettleSpansRow : OpenClaim := { program := "ytdfccojbamlkdaa", sum := "cf31325d34aae7843c822f472d20bd66c883d6b950f83952176aac3d8c8397c4", func := "loop.example/g00649/laws.FnExactSettleSpans", spec := "fnExactSettleSpans", inPlace := ["math/bits.Add64"], unfollowed := true, recurses := true, apart := false }
def FnExactSettleSpansSaid : Prop := fnExactSettleSpansRow.holds Try.pinned (OpenSpec.ofChange fnExactSettleSpansSpec)

/-- ITS FALSE NEIGHBOUR: 'it returns false'. Refute it at one input. -/
def fnExactSettleSpansWrong : ChangeSpec := { name := "fnExactSettleSpans", fn := fun _ => fun
  | [d1, d2, d3] => { results := [.lit (.bool false)], args := [d1, d2, d3] }
  | _ => none }
def FnExactSettleSpansWrongFalsely : Prop := fnExactSettleSpansRow.holds Try.pinned (OpenSpec.ofChange fnExactSettleSpansWrong)

/- THE SECOND FORM. 'bulk': how many values and letters a reading holds, each counted each time it is reached (what is shared counts as often as it is met; a slice's spare places count too). A statement '..UptoSaid' is the law's where the arguments, and the package variables that the reading takes, are together of bulk at most 1048576: NARROWER than '..Said'. Prove '..Said' where nothing that the law and all that it calls make is longer than what came in: it says more and counts as full. Else prove '..UptoSaid'. A law counts once. -/
mutual
def uptoBulk {H : Type} : DataW H → Nat
  | .lit (.string bytes) => bytes.length + 1
  | .lit _ => 1
  | .nil => 1
  | .ptr d => uptoBulk d + 1
  | .slice elems spare => uptoBulkAll elems + uptoBulkAll spare + 1
  | .agg parts => uptoBulkAll parts + 1
  | .iface _ d => uptoBulk d + 1
  | .map entries => uptoBulkEntries entries + 1
  | .held _ => 1
def uptoBulkAll {H : Type} : List (DataW H) → Nat
  | [] => 0
  | d :: r => uptoBulk d + uptoBulkAll r
def uptoBulkEntries {H : Type} : List (Lit × DataW H) → Nat
  | [] => 0
  | x :: r => uptoBulkEntry x + uptoBulkEntries r
def uptoBulkEntry {H : Type} : Lit × DataW H → Nat
  | (.string bytes, d) => bytes.length + uptoBulk d + 1
  | (_, d) => uptoBulk d + 1
 end
def uptoSmall : (H : Type) → List (DataW H) → Bool := fun _ ds => decide (uptoBulkAll ds ≤ 1048576)
def OpenSpec.upto (s : _root_.Go.ChangeSpec) : _root_.Go.OpenSpec := { _root_.Go.OpenSpec.ofChange s with cond := some uptoSmall }

/-- 'laws.FnExactImpliesIn', WHERE WHAT IT READS IS OF BULK AT MOST 1048576: true; the input reads as it did. -/
def fnExactImpliesInUptoRow : OpenClaim := { program := "ytdfccojbamlkdaa", sum := "cf31325d34aae7843c822f472d20bd66c883d6b950f83952176aac3d8c8397c4", func := "loop.example/g00649/laws.FnExactImpliesIn", spec := "fnExactImpliesIn", unfollowed := true, recurses := true, named := ["math/bits.divideError", "math/bits.overflowError"], apart := false, narrowed := true }
def FnExactImpliesInUptoSaid : Prop := fnExactImpliesInUptoRow.holds Try.pinned (OpenSpec.upto fnExactImpliesInSpec)

/-- 'laws.FnExactSameIn', WHERE WHAT IT READS IS OF BULK AT MOST 1048576: true; the input reads as it did. -/
def fnExactSameInUptoRow : OpenClaim := { program := "ytdfccojbamlkdaa", sum := "cf31325d34aae7843c822f472d20bd66c883d6b950f83952176aac3d8c8397c4", func := "loop.example/g00649/laws.FnExactSameIn", spec := "fnExactSameIn", unfollowed := true, recurses := true, named := ["math/bits.divideError", "math/bits.overflowError"], apart := false, narrowed := true }
def FnExactSameInUptoSaid : Prop := fnExactSameInUptoRow.holds Try.pinned (OpenSpec.upto fnExactSameInSpec)

/-- 'laws.FnExactKeepsOut', WHERE WHAT IT READS IS OF BULK AT MOST 1048576: true; the input reads as it did. -/
def fnExactKeepsOutUptoRow : OpenClaim := { program := "ytdfccojbamlkdaa", sum := "cf31325d34aae7843c822f472d20bd66c883d6b950f83952176aac3d8c8397c4", func := "loop.example/g00649/laws.FnExactKeepsOut", spec := "fnExactKeepsOut", unfollowed := true, recurses := true, named := ["math/bits.divideError", "math/bits.overflowError"], apart := false, narrowed := true }
def FnExactKeepsOutUptoSaid : Prop := fnExactKeepsOutUptoRow.holds Try.pinned (OpenSpec.upto fnExactKeepsOutSpec)

/-- 'laws.FnExactSeparates', WHERE WHAT IT READS IS OF BULK AT MOST 1048576: true; the input reads as it did. -/
def fnExactSeparatesUptoRow : OpenClaim := { program := "ytdfccojbamlkdaa", sum := "cf31325d34aae7843c822f472d20bd66c883d6b950f83952176aac3d8c8397c4", func := "loop.example/g00649/laws.FnExactSeparates", spec := "fnExactSeparates", unfollowed := true, recurses := true, named := ["math/bits.divideError", "math/bits.overflowError"], apart := false, narrowed := true }
def FnExactSeparatesUptoSaid : Prop := fnExactSeparatesUptoRow.holds Try.pinned (OpenSpec.upto fnExactSeparatesSpec)

/-- 'laws.FnExactDropPoint', WHERE WHAT IT READS IS OF BULK AT MOST 1048576: true; the input reads as it did. -/
def fnExactDropPointUptoRow : OpenClaim := { program := "ytdfccojbamlkdaa", sum := "cf31325d34aae7843c822f472d20bd66c883d6b950f83952176aac3d8c8397c4", func := "loop.example/g00649/laws.FnExactDropPoint", spec := "fnExactDropPoint", unfollowed := true, recurses := true, apart := false, narrowed := true }
def FnExactDropPointUptoSaid : Prop := fnExactDropPointUptoRow.holds Try.pinned (OpenSpec.upto fnExactDropPointSpec)

/-- 'laws.FnExactPathClasses', WHERE WHAT IT READS IS OF BULK AT MOST 1048576: true; the input reads as it did. -/
def fnExactPathClassesUptoRow : OpenClaim := { program := "ytdfccojbamlkdaa", sum := "cf31325d34aae7843c822f472d20bd66c883d6b950f83952176aac3d8c8397c4", func := "loop.example/g00649/laws.FnExactPathClasses", spec := "fnExactPathClasses", unfollowed := true, recurses := true, apart := false, narrowed := true }
def FnExactPathClassesUptoSaid : Prop := fnExactPathClassesUptoRow.holds Try.pinned (OpenSpec.upto fnExactPathClassesSpec)

/-- 'laws.FnExactAlongBefore', WHERE WHAT IT READS IS OF BULK AT MOST 1048576: true; the input reads as it did. -/
def fnExactAlongBeforeUptoRow : OpenClaim := { program := "ytdfccojbamlkdaa", sum := "cf31325d34aae7843c822f472d20bd66c883d6b950f83952176aac3d8c8397c4", func := "loop.example/g00649/laws.FnExactAlongBefore", spec := "fnExactAlongBefore", unfollowed := true, recurses := true, apart := false, narrowed := true }
def FnExactAlongBeforeUptoSaid : Prop := fnExactAlongBeforeUptoRow.holds Try.pinned (OpenSpec.upto fnExactAlongBeforeSpec)

/-- 'laws.FnExactTryTerms', WHERE WHAT IT READS IS OF BULK AT MOST 1048576: true; the input reads as it did. -/
def fnExactTryTermsUptoRow : OpenClaim := { program := "ytdfccojbamlkdaa", sum := "cf31325d34aae7843c822f472d20bd66c883d6b950f83952176aac3d8c8397c4", func := "loop.example/g00649/laws.FnExactTryTerms", spec := "fnExactTryTerms", unfollowed := true, recurses := true, apart := false, narrowed := true }
def FnExactTryTermsUptoSaid : Prop := fnExactTryTermsUptoRow.holds Try.pinned (OpenSpec.upto fnExactTryTermsSpec)

/-- 'laws.FnExactRoundAndRound', WHERE WHAT IT READS IS OF BULK AT MOST 1048576: true; the input reads as it did. -/
def fnExactRoundAndRoundUptoRow : OpenClaim := { program := "ytdfccojbamlkdaa", sum := "cf31325d34aae7843c822f472d20bd66c883d6b950f83952176aac3d8c8397c4", func := "loop.example/g00649/laws.FnExactRoundAndRound", spec := "fnExactRoundAndRound", unfollowed := true, recurses := true, apart := false, narrowed := true }
def FnExactRoundAndRoundUptoSaid : Prop := fnExactRoundAndRoundUptoRow.holds Try.pinned (OpenSpec.upto fnExactRoundAndRoundSpec)

/-- 'laws.FnExactSpanRound', WHERE WHAT IT READS IS OF BULK AT MOST 1048576: true; the input reads as it did. -/
def fnExactSpanRoundUptoRow : OpenClaim := { program := "ytdfccojbamlkdaa", sum := "cf31325d34aae7843c822f472d20bd66c883d6b950f83952176aac3d8c8397c4", func := "loop.example/g00649/laws.FnExactSpanRound", spec := "fnExactSpanRound", inPlace := ["math/bits.Add64"], unfollowed := true, recurses := true, apart := false, narrowed := true }
def FnExactSpanRoundUptoSaid : Prop := fnExactSpanRoundUptoRow.holds Try.pinned (OpenSpec.upto fnExactSpanRoundSpec)

/-- 'laws.FnExactSettleSpans', WHERE WHAT IT READS IS OF BULK AT MOST 1048576: true; the input reads as it did. -/
def fnExactSettleSpansUptoRow : OpenClaim := { program := "ytdfccojbamlkdaa", sum := "cf31325d34aae7843c822f472d20bd66c883d6b950f83952176aac3d8c8397c4", func := "loop.example/g00649/laws.FnExactSettleSpans", spec := "fnExactSettleSpans", inPlace := ["math/bits.Add64"], unfollowed := true, recurses := true, apart := false, narrowed := true }
def FnExactSettleSpansUptoSaid : Prop := fnExactSettleSpansUptoRow.holds Try.pinned (OpenSpec.upto fnExactSettleSpansSpec)

end Rows
end Go.Proofs.Ytdfccojbamlkdaa
