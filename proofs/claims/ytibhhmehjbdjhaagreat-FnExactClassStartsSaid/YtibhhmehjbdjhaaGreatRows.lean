/-
  No cell of these rows narrows 'for every input' (looked for: loops, veiled, ifaces, maps, wideKeys, modest, calm, conditions, laid).
  DERIVED. THE GIVEN ROWS OF THIS SEAT. 4 by the template 'for every input the law returns true; each argument reads behind the call as it read before'; 0 by the template 'total and deterministic' (their statements: YtibhhmehjbdjhaaGreatTotals.lean).
  GIVEN WITH THE SEED: the statements are not yours to turn. If you find one false, say at which input.
  Laid BY PROGRAM, IN A SANDBOX (cutbox-rows.mjs): the forced cells as the released guide's own fill.sh prints them over the translation 9e80d634991a2fe1… (all of the seat's roots in one cut). By AI agents, Wed Nov 11 2026. No macro, syntax, notation, axiom, sorry.
-/
import Derived.Test.YtibhhmehjbdjhaaGreatChecked
import GoSem.Claim
import GoSem.ClaimJoined
import GoSem.ClaimMapViews
import Derived.JoinedTies
import Derived.KernelRfl
namespace Go.Proofs.YtibhhmehjbdjhaaGreat
/- THE CELL 'sum', in the pinned program and in every row, IS THE sha256 OF THE DUMP (.gsa) THAT YtibhhmehjbdjhaaGreatProg.lean LOADS. Nothing in Lean hashes anything: it is a label: what it is worth is what the hold of that sum in a sandbox is worth. -/
noncomputable def Tryz.pinned : Pinned := { name := "ytibhhmehjbdjhaagreat", sum := "9e80d634991a2fe119467579b10c6c2febc8b45656ae6a1f2f4dc9d12fdc8cff", checked := Tryz.checked }
namespace Rows
def none {H : Type} : Left H := { results := [], args := [] }

/-- 'laws.FnExactClassStarts': WHATEVER THE INPUT: true; the input reads as it did. -/
def fnExactClassStartsSpec : ChangeSpec := { name := "fnExactClassStarts", fn := fun _ => fun
  | [d1, d2] => { results := [.lit (.bool true)], args := [d1, d2] }
  | _ => none }
def fnExactClassStartsRow : OpenClaim := { program := "ytibhhmehjbdjhaagreat", sum := "9e80d634991a2fe119467579b10c6c2febc8b45656ae6a1f2f4dc9d12fdc8cff", func := "loop.example/g00649/laws.FnExactClassStarts", spec := "fnExactClassStarts", unfollowed := true, recurses := true, named := ["math/bits.divideError", "math/bits.overflowError"], apart := false }
def FnExactClassStartsSaid : Prop := fnExactClassStartsRow.holds Tryz.pinned (OpenSpec.ofChange fnExactClassStartsSpec)

/-- ITS FALSE NEIGHBOUR: 'it returns false'. Refute it at one input. -/
def fnExactClassStartsWrong : ChangeSpec := { name := "fnExactClassStarts", fn := fun _ => fun
  | [d1, d2] => { results := [.lit (.bool false)], args := [d1, d2] }
  | _ => none }
def FnExactClassStartsWrongFalsely : Prop := fnExactClassStartsRow.holds Tryz.pinned (OpenSpec.ofChange fnExactClassStartsWrong)

/-- 'laws.FnExactAfterOf': WHATEVER THE INPUT: true; the input reads as it did. -/
def fnExactAfterOfSpec : ChangeSpec := { name := "fnExactAfterOf", fn := fun _ => fun
  | [d1, d2, d3] => { results := [.lit (.bool true)], args := [d1, d2, d3] }
  | _ => none }
def fnExactAfterOfRow : OpenClaim := { program := "ytibhhmehjbdjhaagreat", sum := "9e80d634991a2fe119467579b10c6c2febc8b45656ae6a1f2f4dc9d12fdc8cff", func := "loop.example/g00649/laws.FnExactAfterOf", spec := "fnExactAfterOf", unfollowed := true, recurses := true, named := ["math/bits.divideError", "math/bits.overflowError"], apart := false }
def FnExactAfterOfSaid : Prop := fnExactAfterOfRow.holds Tryz.pinned (OpenSpec.ofChange fnExactAfterOfSpec)

/-- ITS FALSE NEIGHBOUR: 'it returns false'. Refute it at one input. -/
def fnExactAfterOfWrong : ChangeSpec := { name := "fnExactAfterOf", fn := fun _ => fun
  | [d1, d2, d3] => { results := [.lit (.bool false)], args := [d1, d2, d3] }
  | _ => none }
def FnExactAfterOfWrongFalsely : Prop := fnExactAfterOfRow.holds Tryz.pinned (OpenSpec.ofChange fnExactAfterOfWrong)

/-- 'laws.FnExactClassSteps': WHATEVER THE INPUT: true; the input reads as it did. -/
def fnExactClassStepsSpec : ChangeSpec := { name := "fnExactClassSteps", fn := fun _ => fun
  | [d1, d2, d3] => { results := [.lit (.bool true)], args := [d1, d2, d3] }
  | _ => none }
def fnExactClassStepsRow : OpenClaim := { program := "ytibhhmehjbdjhaagreat", sum := "9e80d634991a2fe119467579b10c6c2febc8b45656ae6a1f2f4dc9d12fdc8cff", func := "loop.example/g00649/laws.FnExactClassSteps", spec := "fnExactClassSteps", unfollowed := true, recurses := true, named := ["math/bits.divideError", "math/bits.overflowError"], apart := false }
def FnExactClassStepsSaid : Prop := fnExactClassStepsRow.holds Tryz.pinned (OpenSpec.ofChange fnExactClassStepsSpec)

/-- ITS FALSE NEIGHBOUR: 'it returns false'. Refute it at one input. -/
def fnExactClassStepsWrong : ChangeSpec := { name := "fnExactClassSteps", fn := fun _ => fun
  | [d1, d2, d3] => { results := [.lit (.bool false)], args := [d1, d2, d3] }
  | _ => none }
def FnExactClassStepsWrongFalsely : Prop := fnExactClassStepsRow.holds Tryz.pinned (OpenSpec.ofChange fnExactClassStepsWrong)

/-- 'laws.FnExactClassGraph': WHATEVER THE INPUT: true; the input reads as it did. -/
def fnExactClassGraphSpec : ChangeSpec := { name := "fnExactClassGraph", fn := fun _ => fun
  | [d1, d2] => { results := [.lit (.bool true)], args := [d1, d2] }
  | _ => none }
def fnExactClassGraphRow : OpenClaim := { program := "ytibhhmehjbdjhaagreat", sum := "9e80d634991a2fe119467579b10c6c2febc8b45656ae6a1f2f4dc9d12fdc8cff", func := "loop.example/g00649/laws.FnExactClassGraph", spec := "fnExactClassGraph", unfollowed := true, recurses := true, named := ["math/bits.divideError", "math/bits.overflowError"], apart := false }
def FnExactClassGraphSaid : Prop := fnExactClassGraphRow.holds Tryz.pinned (OpenSpec.ofChange fnExactClassGraphSpec)

/-- ITS FALSE NEIGHBOUR: 'it returns false'. Refute it at one input. -/
def fnExactClassGraphWrong : ChangeSpec := { name := "fnExactClassGraph", fn := fun _ => fun
  | [d1, d2] => { results := [.lit (.bool false)], args := [d1, d2] }
  | _ => none }
def FnExactClassGraphWrongFalsely : Prop := fnExactClassGraphRow.holds Tryz.pinned (OpenSpec.ofChange fnExactClassGraphWrong)

/- THE SECOND FORM. 'bulk': how many values and letters a reading holds, each counted each time it is reached (what is shared counts as often as it is met; a slice's spare places count too). A statement '..UptoSaid' is the law's where the arguments, and the package variables that the reading takes, are together of bulk at most 1048576: NARROWER than '..Said'. Prove '..Said' where nothing that the law and all that it calls make is longer than what came in: it says more and counts as full. Else prove '..UptoSaid'. A law counts once. -/
mutual
def uptoBulk {H : Type} : DataW H → Nat
  | .lit (.string bytes) => bytes.length + 1
  | .lit _ => 1
  | .nil => 1
  | .ptr d => uptoBulk d + 1
  | .slice elems spare => uptoBulkAll elems + uptoBulkAll spare + 1
  | .agg parts => uptoBulkAll parts + 1
  | .iface _ d => uptoBulk d + 1
  | .map entries => uptoBulkEntries entries + 1
  | .held _ => 1
def uptoBulkAll {H : Type} : List (DataW H) → Nat
  | [] => 0
  | d :: r => uptoBulk d + uptoBulkAll r
def uptoBulkEntries {H : Type} : List (Lit × DataW H) → Nat
  | [] => 0
  | x :: r => uptoBulkEntry x + uptoBulkEntries r
def uptoBulkEntry {H : Type} : Lit × DataW H → Nat
  | (.string bytes, d) => bytes.length + uptoBulk d + 1
  | (_, d) => uptoBulk d + 1
 end
def uptoSmall : (H : Type) → List (DataW H) → Bool := fun _ ds => decide (uptoBulkAll ds ≤ 1048576)
def OpenSpec.upto (s : _root_.Go.ChangeSpec) : _root_.Go.OpenSpec := { _root_.Go.OpenSpec.ofChange s with cond := some uptoSmall }

/-- 'laws.FnExactClassStarts', WHERE WHAT IT READS IS OF BULK AT MOST 1048576: true; the input reads as it did. -/
def fnExactClassStartsUptoRow : OpenClaim := { program := "ytibhhmehjbdjhaagreat", sum := "9e80d634991a2fe119467579b10c6c2febc8b45656ae6a1f2f4dc9d12fdc8cff", func := "loop.example/g00649/laws.FnExactClassStarts", spec := "fnExactClassStarts", unfollowed := true, recurses := true, named := ["math/bits.divideError", "math/bits.overflowError"], apart := false, narrowed := true }
def FnExactClassStartsUptoSaid : Prop := fnExactClassStartsUptoRow.holds Tryz.pinned (OpenSpec.upto fnExactClassStartsSpec)

/-- 'laws.FnExactAfterOf', WHERE WHAT IT READS IS OF BULK AT MOST 1048576: true; the input reads as it did. -/
def fnExactAfterOfUptoRow : OpenClaim := { program := "ytibhhmehjbdjhaagreat", sum := "9e80d634991a2fe119467579b10c6c2febc8b45656ae6a1f2f4dc9d12fdc8cff", func := "loop.example/g00649/laws.FnExactAfterOf", spec := "fnExactAfterOf", unfollowed := true, recurses := true, named := ["math/bits.divideError", "math/bits.overflowError"], apart := false, narrowed := true }
def FnExactAfterOfUptoSaid : Prop := fnExactAfterOfUptoRow.holds Tryz.pinned (OpenSpec.upto fnExactAfterOfSpec)

/-- 'laws.FnExactClassSteps', WHERE WHAT IT READS IS OF BULK AT MOST 1048576: true; the input reads as it did. -/
def fnExactClassStepsUptoRow : OpenClaim := { program := "ytibhhmehjbdjhaagreat", sum := "9e80d634991a2fe119467579b10c6c2febc8b45656ae6a1f2f4dc9d12fdc8cff", func := "loop.example/g00649/laws.FnExactClassSteps", spec := "fnExactClassSteps", unfollowed := true, recurses := true, named := ["math/bits.divideError", "math/bits.overflowError"], apart := false, narrowed := true }
def FnExactClassStepsUptoSaid : Prop := fnExactClassStepsUptoRow.holds Tryz.pinned (OpenSpec.upto fnExactClassStepsSpec)

/-- 'laws.FnExactClassGraph', WHERE WHAT IT READS IS OF BULK AT MOST 1048576: true; the input reads as it did. -/
def fnExactClassGraphUptoRow : OpenClaim := { program := "ytibhhmehjbdjhaagreat", sum := "9e80d634991a2fe119467579b10c6c2febc8b45656ae6a1f2f4dc9d12fdc8cff", func := "loop.example/g00649/laws.FnExactClassGraph", spec := "fnExactClassGraph", unfollowed := true, recurses := true, named := ["math/bits.divideError", "math/bits.overflowError"], apart := false, narrowed := true }
def FnExactClassGraphUptoSaid : Prop := fnExactClassGraphUptoRow.holds Tryz.pinned (OpenSpec.upto fnExactClassGraphSpec)

end Rows
end Go.Proofs.YtibhhmehjbdjhaaGreat
