/-
  No cell of these rows narrows 'for every input' (looked for: loops, veiled, ifaces, maps, wideKeys, modest, calm, conditions, laid).
  DERIVED. THE GIVEN ROWS OF THIS SEAT. 11 by the template 'for every input the law returns true; each argument reads behind the call as it read before'; 0 by the template 'total and deterministic' (their statements: YtimoiblediffpaaTotals.lean).
  GIVEN WITH THE SEED: the statements are not yours to turn. If you find one false, say at which input.
  Laid BY PROGRAM, IN A SANDBOX (cutbox-rows.mjs): the forced cells as the released guide's own fill.sh prints them over the translation 51175f237ffa9911… (all of the seat's roots in one cut). By AI agents, Wed Nov 11 2026. No macro, syntax, notation, axiom, sorry.
-/
import Derived.Test.YtimoiblediffpaaChecked
import GoSem.Claim
import GoSem.ClaimJoined
import GoSem.ClaimMapViews
import Derived.JoinedTies
import Derived.KernelRfl
namespace Go.Proofs.Ytimoiblediffpaa
/- THE CELL 'sum', in the pinned program and in every row, IS THE sha256 OF THE DUMP (.gsa) THAT YtimoiblediffpaaProg.lean LOADS. Nothing in Lean hashes anything: it is a label: what it is worth is what the hold of that sum in a sandbox is worth. -/
noncomputable def Try.pinned : Pinned := { name := "ytimoiblediffpaa", sum := "51175f237ffa99118f70e5824083618835fff3c6886e429b8bd2da5bc8aa28b2", checked := Try.checked }
namespace Rows
def none {H : Type} : Left H := { results := [], args := [] }

/-- 'laws.FnExactGoodSpan': WHATEVER THE INPUT: true; the input reads as it did. -/
def fnExactGoodSpanSpec : ChangeSpec := { name := "fnExactGoodSpan", fn := fun _ => fun
  | [d1, d2] => { results := [.lit (.bool true)], args := [d1, d2] }
  | _ => none }
def fnExactGoodSpanRow : OpenClaim := { program := "ytimoiblediffpaa", sum := "51175f237ffa99118f70e5824083618835fff3c6886e429b8bd2da5bc8aa28b2", func := "loop.example/g00649/laws.FnExactGoodSpan", spec := "fnExactGoodSpan", apart := false }
def FnExactGoodSpanSaid : Prop := fnExactGoodSpanRow.holds Try.pinned (OpenSpec.ofChange fnExactGoodSpanSpec)

/-- ITS FALSE NEIGHBOUR: 'it returns false'. Refute it at one input. -/
def fnExactGoodSpanWrong : ChangeSpec := { name := "fnExactGoodSpan", fn := fun _ => fun
  | [d1, d2] => { results := [.lit (.bool false)], args := [d1, d2] }
  | _ => none }
def FnExactGoodSpanWrongFalsely : Prop := fnExactGoodSpanRow.holds Try.pinned (OpenSpec.ofChange fnExactGoodSpanWrong)

/-- 'laws.FnExactJoinSpans': WHATEVER THE INPUT: true; the input reads as it did. -/
def fnExactJoinSpansSpec : ChangeSpec := { name := "fnExactJoinSpans", fn := fun _ => fun
  | [d1, d2, d3] => { results := [.lit (.bool true)], args := [d1, d2, d3] }
  | _ => none }
def fnExactJoinSpansRow : OpenClaim := { program := "ytimoiblediffpaa", sum := "51175f237ffa99118f70e5824083618835fff3c6886e429b8bd2da5bc8aa28b2", func := "loop.example/g00649/laws.FnExactJoinSpans", spec := "fnExactJoinSpans", apart := false }
def FnExactJoinSpansSaid : Prop := fnExactJoinSpansRow.holds Try.pinned (OpenSpec.ofChange fnExactJoinSpansSpec)

/-- ITS FALSE NEIGHBOUR: 'it returns false'. Refute it at one input. -/
def fnExactJoinSpansWrong : ChangeSpec := { name := "fnExactJoinSpans", fn := fun _ => fun
  | [d1, d2, d3] => { results := [.lit (.bool false)], args := [d1, d2, d3] }
  | _ => none }
def FnExactJoinSpansWrongFalsely : Prop := fnExactJoinSpansRow.holds Try.pinned (OpenSpec.ofChange fnExactJoinSpansWrong)

/-- 'laws.FnExactMeetSpans': WHATEVER THE INPUT: true; the input reads as it did. -/
def fnExactMeetSpansSpec : ChangeSpec := { name := "fnExactMeetSpans", fn := fun _ => fun
  | [d1, d2, d3] => { results := [.lit (.bool true)], args := [d1, d2, d3] }
  | _ => none }
def fnExactMeetSpansRow : OpenClaim := { program := "ytimoiblediffpaa", sum := "51175f237ffa99118f70e5824083618835fff3c6886e429b8bd2da5bc8aa28b2", func := "loop.example/g00649/laws.FnExactMeetSpans", spec := "fnExactMeetSpans", apart := false }
def FnExactMeetSpansSaid : Prop := fnExactMeetSpansRow.holds Try.pinned (OpenSpec.ofChange fnExactMeetSpansSpec)

/-- ITS FALSE NEIGHBOUR: 'it returns false'. Refute it at one input. -/
def fnExactMeetSpansWrong : ChangeSpec := { name := "fnExactMeetSpans", fn := fun _ => fun
  | [d1, d2, d3] => { results := [.lit (.bool false)], args := [d1, d2, d3] }
  | _ => none }
def FnExactMeetSpansWrongFalsely : Prop := fnExactMeetSpansRow.holds Try.pinned (OpenSpec.ofChange fnExactMeetSpansWrong)

/-- 'laws.FnExactInSpans': WHATEVER THE INPUT: true; the input reads as it did. -/
def fnExactInSpansSpec : ChangeSpec := { name := "fnExactInSpans", fn := fun _ => fun
  | [d1, d2, d3] => { results := [.lit (.bool true)], args := [d1, d2, d3] }
  | _ => none }
def fnExactInSpansRow : OpenClaim := { program := "ytimoiblediffpaa", sum := "51175f237ffa99118f70e5824083618835fff3c6886e429b8bd2da5bc8aa28b2", func := "loop.example/g00649/laws.FnExactInSpans", spec := "fnExactInSpans", unfollowed := true, recurses := true, apart := false }
def FnExactInSpansSaid : Prop := fnExactInSpansRow.holds Try.pinned (OpenSpec.ofChange fnExactInSpansSpec)

/-- ITS FALSE NEIGHBOUR: 'it returns false'. Refute it at one input. -/
def fnExactInSpansWrong : ChangeSpec := { name := "fnExactInSpans", fn := fun _ => fun
  | [d1, d2, d3] => { results := [.lit (.bool false)], args := [d1, d2, d3] }
  | _ => none }
def FnExactInSpansWrongFalsely : Prop := fnExactInSpansRow.holds Try.pinned (OpenSpec.ofChange fnExactInSpansWrong)

/-- 'laws.FnExactDropPoint': WHATEVER THE INPUT: true; the input reads as it did. -/
def fnExactDropPointSpec : ChangeSpec := { name := "fnExactDropPoint", fn := fun _ => fun
  | [d1, d2] => { results := [.lit (.bool true)], args := [d1, d2] }
  | _ => none }
def fnExactDropPointRow : OpenClaim := { program := "ytimoiblediffpaa", sum := "51175f237ffa99118f70e5824083618835fff3c6886e429b8bd2da5bc8aa28b2", func := "loop.example/g00649/laws.FnExactDropPoint", spec := "fnExactDropPoint", unfollowed := true, recurses := true, apart := false }
def FnExactDropPointSaid : Prop := fnExactDropPointRow.holds Try.pinned (OpenSpec.ofChange fnExactDropPointSpec)

/-- ITS FALSE NEIGHBOUR: 'it returns false'. Refute it at one input. -/
def fnExactDropPointWrong : ChangeSpec := { name := "fnExactDropPoint", fn := fun _ => fun
  | [d1, d2] => { results := [.lit (.bool false)], args := [d1, d2] }
  | _ => none }
def FnExactDropPointWrongFalsely : Prop := fnExactDropPointRow.holds Try.pinned (OpenSpec.ofChange fnExactDropPointWrong)

/-- 'laws.FnShort': WHATEVER THE INPUT: true; the input reads as it did. -/
def fnShortSpec : ChangeSpec := { name := "fnShort", fn := fun _ => fun
  | [d1, d2] => { results := [.lit (.bool true)], args := [d1, d2] }
  | _ => none }
def fnShortRow : OpenClaim := { program := "ytimoiblediffpaa", sum := "51175f237ffa99118f70e5824083618835fff3c6886e429b8bd2da5bc8aa28b2", func := "loop.example/g00649/laws.FnShort", spec := "fnShort", unfollowed := true, recurses := true, apart := false }
def FnShortSaid : Prop := fnShortRow.holds Try.pinned (OpenSpec.ofChange fnShortSpec)

/-- ITS FALSE NEIGHBOUR: 'it returns false'. Refute it at one input. -/
def fnShortWrong : ChangeSpec := { name := "fnShort", fn := fun _ => fun
  | [d1, d2] => { results := [.lit (.bool false)], args := [d1, d2] }
  | _ => none }
def FnShortWrongFalsely : Prop := fnShortRow.holds Try.pinned (OpenSpec.ofChange fnShortWrong)

/-- 'laws.FnExactEnoughFor': WHATEVER THE INPUT: true; the input reads as it did. -/
def fnExactEnoughForSpec : ChangeSpec := { name := "fnExactEnoughFor", fn := fun _ => fun
  | [d] => { results := [.lit (.bool true)], args := [d] }
  | _ => none }
def fnExactEnoughForRow : OpenClaim := { program := "ytimoiblediffpaa", sum := "51175f237ffa99118f70e5824083618835fff3c6886e429b8bd2da5bc8aa28b2", func := "loop.example/g00649/laws.FnExactEnoughFor", spec := "fnExactEnoughFor", unfollowed := true, recurses := true, apart := false }
def FnExactEnoughForSaid : Prop := fnExactEnoughForRow.holds Try.pinned (OpenSpec.ofChange fnExactEnoughForSpec)

/-- ITS FALSE NEIGHBOUR: 'it returns false'. Refute it at one input. -/
def fnExactEnoughForWrong : ChangeSpec := { name := "fnExactEnoughFor", fn := fun _ => fun
  | [d] => { results := [.lit (.bool false)], args := [d] }
  | _ => none }
def FnExactEnoughForWrongFalsely : Prop := fnExactEnoughForRow.holds Try.pinned (OpenSpec.ofChange fnExactEnoughForWrong)

/-- 'laws.FnParts': WHATEVER THE INPUT: true; the input reads as it did. -/
def fnPartsSpec : ChangeSpec := { name := "fnParts", fn := fun _ => fun
  | [d1, d2] => { results := [.lit (.bool true)], args := [d1, d2] }
  | _ => none }
def fnPartsRow : OpenClaim := { program := "ytimoiblediffpaa", sum := "51175f237ffa99118f70e5824083618835fff3c6886e429b8bd2da5bc8aa28b2", func := "loop.example/g00649/laws.FnParts", spec := "fnParts", recurses := true, apart := false }
def FnPartsSaid : Prop := fnPartsRow.holds Try.pinned (OpenSpec.ofChange fnPartsSpec)

/-- ITS FALSE NEIGHBOUR: 'it returns false'. Refute it at one input. -/
def fnPartsWrong : ChangeSpec := { name := "fnParts", fn := fun _ => fun
  | [d1, d2] => { results := [.lit (.bool false)], args := [d1, d2] }
  | _ => none }
def FnPartsWrongFalsely : Prop := fnPartsRow.holds Try.pinned (OpenSpec.ofChange fnPartsWrong)

/-- 'laws.FnPruned': WHATEVER THE INPUT: true; the input reads as it did. -/
def fnPrunedSpec : ChangeSpec := { name := "fnPruned", fn := fun _ => fun
  | [d1, d2] => { results := [.lit (.bool true)], args := [d1, d2] }
  | _ => none }
def fnPrunedRow : OpenClaim := { program := "ytimoiblediffpaa", sum := "51175f237ffa99118f70e5824083618835fff3c6886e429b8bd2da5bc8aa28b2", func := "loop.example/g00649/laws.FnPruned", spec := "fnPruned", unfollowed := true, recurses := true, apart := false }
def FnPrunedSaid : Prop := fnPrunedRow.holds Try.pinned (OpenSpec.ofChange fnPrunedSpec)

/-- ITS FALSE NEIGHBOUR: 'it returns false'. Refute it at one input. -/
def fnPrunedWrong : ChangeSpec := { name := "fnPruned", fn := fun _ => fun
  | [d1, d2] => { results := [.lit (.bool false)], args := [d1, d2] }
  | _ => none }
def FnPrunedWrongFalsely : Prop := fnPrunedRow.holds Try.pinned (OpenSpec.ofChange fnPrunedWrong)

/-- 'laws.FnExactSpanOf': WHATEVER THE INPUT: true; the input reads as it did. -/
def fnExactSpanOfSpec : ChangeSpec := { name := "fnExactSpanOf", fn := fun _ => fun
  | [d1, d2, d3] => { results := [.lit (.bool true)], args := [d1, d2, d3] }
  | _ => none }
def fnExactSpanOfRow : OpenClaim := { program := "ytimoiblediffpaa", sum := "51175f237ffa99118f70e5824083618835fff3c6886e429b8bd2da5bc8aa28b2", func := "loop.example/g00649/laws.FnExactSpanOf", spec := "fnExactSpanOf", inPlace := ["math/bits.Add64"], unfollowed := true, recurses := true, apart := false }
def FnExactSpanOfSaid : Prop := fnExactSpanOfRow.holds Try.pinned (OpenSpec.ofChange fnExactSpanOfSpec)

/-- ITS FALSE NEIGHBOUR: 'it returns false'. Refute it at one input. -/
def fnExactSpanOfWrong : ChangeSpec := { name := "fnExactSpanOf", fn := fun _ => fun
  | [d1, d2, d3] => { results := [.lit (.bool false)], args := [d1, d2, d3] }
  | _ => none }
def FnExactSpanOfWrongFalsely : Prop := fnExactSpanOfRow.holds Try.pinned (OpenSpec.ofChange fnExactSpanOfWrong)

/-- 'laws.FnExactPathClasses': WHATEVER THE INPUT: true; the input reads as it did. -/
def fnExactPathClassesSpec : ChangeSpec := { name := "fnExactPathClasses", fn := fun _ => fun
  | [d1, d2, d3] => { results := [.lit (.bool true)], args := [d1, d2, d3] }
  | _ => none }
def fnExactPathClassesRow : OpenClaim := { program := "ytimoiblediffpaa", sum := "51175f237ffa99118f70e5824083618835fff3c6886e429b8bd2da5bc8aa28b2", func := "loop.example/g00649/laws.FnExactPathClasses", spec := "fnExactPathClasses", unfollowed := true, recurses := true, apart := false }
def FnExactPathClassesSaid : Prop := fnExactPathClassesRow.holds Try.pinned (OpenSpec.ofChange fnExactPathClassesSpec)

/-- ITS FALSE NEIGHBOUR: 'it returns false'. Refute it at one input. -/
def fnExactPathClassesWrong : ChangeSpec := { name := "fnExactPathClasses", fn := fun _ => fun
  | [d1, d2, d3] => { results := [.lit (.bool false)], args := [d1, d2, d3] }
  | _ => none }
def FnExactPathClassesWrongFalsely : Prop := fnExactPathClassesRow.holds Try.pinned (OpenSpec.ofChange fnExactPathClassesWrong)

/- THE SECOND FORM. 'bulk': how many values and letters a reading holds, each counted each time it is reached (what is shared counts as often as it is met; a slice's spare places count too). A statement '..UptoSaid' is the law's where the arguments, and the package variables that the reading takes, are together of bulk at most 1048576: NARROWER than '..Said'. Prove '..Said' where nothing that the law and all that it calls make is longer than what came in: it says more and counts as full. Else prove '..UptoSaid'. A law counts once. -/
mutual
def uptoBulk {H : Type} : DataW H → Nat
  | .lit (.string bytes) => bytes.length + 1
  | .lit _ => 1
  | .nil => 1
  | .ptr d => uptoBulk d + 1
  | .slice elems spare => uptoBulkAll elems + uptoBulkAll spare + 1
  | .agg parts => uptoBulkAll parts + 1
  | .iface _ d => uptoBulk d + 1
  | .map entries => uptoBulkEntries entries + 1
  | .held _ => 1
def uptoBulkAll {H : Type} : List (DataW H) → Nat
  | [] => 0
  | d :: r => uptoBulk d + uptoBulkAll r
def uptoBulkEntries {H : Type} : List (Lit × DataW H) → Nat
  | [] => 0
  | x :: r => uptoBulkEntry x + uptoBulkEntries r
def uptoBulkEntry {H : Type} : Lit × DataW H → Nat
  | (.string bytes, d) => bytes.length + uptoBulk d + 1
  | (_, d) => uptoBulk d + 1
 end
def uptoSmall : (H : Type) → List (DataW H) → Bool := fun _ ds => decide (uptoBulkAll ds ≤ 1048576)
def OpenSpec.upto (s : _root_.Go.ChangeSpec) : _root_.Go.OpenSpec := { _root_.Go.OpenSpec.ofChange s with cond := some uptoSmall }

/-- 'laws.FnExactGoodSpan', WHERE WHAT IT READS IS OF BULK AT MOST 1048576: true; the input reads as it did. -/
def fnExactGoodSpanUptoRow : OpenClaim := { program := "ytimoiblediffpaa", sum := "51175f237ffa99118f70e5824083618835fff3c6886e429b8bd2da5bc8aa28b2", func := "loop.example/g00649/laws.FnExactGoodSpan", spec := "fnExactGoodSpan", apart := false, narrowed := true }
def FnExactGoodSpanUptoSaid : Prop := fnExactGoodSpanUptoRow.holds Try.pinned (OpenSpec.upto fnExactGoodSpanSpec)

/-- 'laws.FnExactJoinSpans', WHERE WHAT IT READS IS OF BULK AT MOST 1048576: true; the input reads as it did. -/
def fnExactJoinSpansUptoRow : OpenClaim := { program := "ytimoiblediffpaa", sum := "51175f237ffa99118f70e5824083618835fff3c6886e429b8bd2da5bc8aa28b2", func := "loop.example/g00649/laws.FnExactJoinSpans", spec := "fnExactJoinSpans", apart := false, narrowed := true }
def FnExactJoinSpansUptoSaid : Prop := fnExactJoinSpansUptoRow.holds Try.pinned (OpenSpec.upto fnExactJoinSpansSpec)

/-- 'laws.FnExactMeetSpans', WHERE WHAT IT READS IS OF BULK AT MOST 1048576: true; the input reads as it did. -/
def fnExactMeetSpansUptoRow : OpenClaim := { program := "ytimoiblediffpaa", sum := "51175f237ffa99118f70e5824083618835fff3c6886e429b8bd2da5bc8aa28b2", func := "loop.example/g00649/laws.FnExactMeetSpans", spec := "fnExactMeetSpans", apart := false, narrowed := true }
def FnExactMeetSpansUptoSaid : Prop := fnExactMeetSpansUptoRow.holds Try.pinned (OpenSpec.upto fnExactMeetSpansSpec)

/-- 'laws.FnExactInSpans', WHERE WHAT IT READS IS OF BULK AT MOST 1048576: true; the input reads as it did. -/
def fnExactInSpansUptoRow : OpenClaim := { program := "ytimoiblediffpaa", sum := "51175f237ffa99118f70e5824083618835fff3c6886e429b8bd2da5bc8aa28b2", func := "loop.example/g00649/laws.FnExactInSpans", spec := "fnExactInSpans", unfollowed := true, recurses := true, apart := false, narrowed := true }
def FnExactInSpansUptoSaid : Prop := fnExactInSpansUptoRow.holds Try.pinned (OpenSpec.upto fnExactInSpansSpec)

/-- 'laws.FnExactDropPoint', WHERE WHAT IT READS IS OF BULK AT MOST 1048576: true; the input reads as it did. -/
def fnExactDropPointUptoRow : OpenClaim := { program := "ytimoiblediffpaa", sum := "51175f237ffa99118f70e5824083618835fff3c6886e429b8bd2da5bc8aa28b2", func := "loop.example/g00649/laws.FnExactDropPoint", spec := "fnExactDropPoint", unfollowed := true, recurses := true, apart := false, narrowed := true }
def FnExactDropPointUptoSaid : Prop := fnExactDropPointUptoRow.holds Try.pinned (OpenSpec.upto fnExactDropPointSpec)

/-- 'laws.FnShort', WHERE WHAT IT READS IS OF BULK AT MOST 1048576: true; the input reads as it did. -/
def fnShortUptoRow : OpenClaim := { program := "ytimoiblediffpaa", sum := "51175f237ffa99118f70e5824083618835fff3c6886e429b8bd2da5bc8aa28b2", func := "loop.example/g00649/laws.FnShort", spec := "fnShort", unfollowed := true, recurses := true, apart := false, narrowed := true }
def FnShortUptoSaid : Prop := fnShortUptoRow.holds Try.pinned (OpenSpec.upto fnShortSpec)

/-- 'laws.FnExactEnoughFor', WHERE WHAT IT READS IS OF BULK AT MOST 1048576: true; the input reads as it did. -/
def fnExactEnoughForUptoRow : OpenClaim := { program := "ytimoiblediffpaa", sum := "51175f237ffa99118f70e5824083618835fff3c6886e429b8bd2da5bc8aa28b2", func := "loop.example/g00649/laws.FnExactEnoughFor", spec := "fnExactEnoughFor", unfollowed := true, recurses := true, apart := false, narrowed := true }
def FnExactEnoughForUptoSaid : Prop := fnExactEnoughForUptoRow.holds Try.pinned (OpenSpec.upto fnExactEnoughForSpec)

/-- 'laws.FnParts', WHERE WHAT IT READS IS OF BULK AT MOST 1048576: true; the input reads as it did. -/
def fnPartsUptoRow : OpenClaim := { program := "ytimoiblediffpaa", sum := "51175f237ffa99118f70e5824083618835fff3c6886e429b8bd2da5bc8aa28b2", func := "loop.example/g00649/laws.FnParts", spec := "fnParts", recurses := true, apart := false, narrowed := true }
def FnPartsUptoSaid : Prop := fnPartsUptoRow.holds Try.pinned (OpenSpec.upto fnPartsSpec)

/-- 'laws.FnPruned', WHERE WHAT IT READS IS OF BULK AT MOST 1048576: true; the input reads as it did. -/
def fnPrunedUptoRow : OpenClaim := { program := "ytimoiblediffpaa", sum := "51175f237ffa99118f70e5824083618835fff3c6886e429b8bd2da5bc8aa28b2", func := "loop.example/g00649/laws.FnPruned", spec := "fnPruned", unfollowed := true, recurses := true, apart := false, narrowed := true }
def FnPrunedUptoSaid : Prop := fnPrunedUptoRow.holds Try.pinned (OpenSpec.upto fnPrunedSpec)

/-- 'laws.FnExactSpanOf', WHERE WHAT IT READS IS OF BULK AT MOST 1048576: true; the input reads as it did. -/
def fnExactSpanOfUptoRow : OpenClaim := { program := "ytimoiblediffpaa", sum := "51175f237ffa99118f70e5824083618835fff3c6886e429b8bd2da5bc8aa28b2", func := "loop.example/g00649/laws.FnExactSpanOf", spec := "fnExactSpanOf", inPlace := ["math/bits.Add64"], unfollowed := true, recurses := true, apart := false, narrowed := true }
def FnExactSpanOfUptoSaid : Prop := fnExactSpanOfUptoRow.holds Try.pinned (OpenSpec.upto fnExactSpanOfSpec)

/-- 'laws.FnExactPathClasses', WHERE WHAT IT READS IS OF BULK AT MOST 1048576: true; the input reads as it did. -/
def fnExactPathClassesUptoRow : OpenClaim := { program := "ytimoiblediffpaa", sum := "51175f237ffa99118f70e5824083618835fff3c6886e429b8bd2da5bc8aa28b2", func := "loop.example/g00649/laws.FnExactPathClasses", spec := "fnExactPathClasses", unfollowed := true, recurses := true, apart := false, narrowed := true }
def FnExactPathClassesUptoSaid : Prop := fnExactPathClassesUptoRow.holds Try.pinned (OpenSpec.upto fnExactPathClassesSpec)

end Rows
end Go.Proofs.Ytimoiblediffpaa
