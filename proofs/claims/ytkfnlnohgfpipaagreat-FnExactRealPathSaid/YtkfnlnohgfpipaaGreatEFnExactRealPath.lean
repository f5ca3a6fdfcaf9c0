/- Kinds, signatures and loops of the functions that the laws reach, and what each computes. -/
import Derived.Test.YtkfnlnohgfpipaaGreatRfD
import Derived.Test.YtkfnlnohgfpipaaGreatProg
import Derived.KernelRfl
import Derived.Test.YtkfnlnohgfpipaaGreatShelf
set_option linter.unusedVariables false
namespace Go.Proofs.YtkfnlnohgfpipaaGreat.R
open Go.Rf Go.Proofs
def tyNode : Ty := (.pair (.int .i64) (.int .u64))
abbrev DNode := Int × Int
def tySaid : Ty := (.pair (.int .i64) (.int .i64))
abbrev DSaid := Int × Int
def tySight : Ty := (.one (.sl (.int .i64)))
abbrev DSight := Bool × List Int
def tyLasso : Ty := (.pair (.sl (.int .i64)) (.sl (.int .i64)))
abbrev DLasso := (Bool × List Int) × Bool × List Int
def tyEdge : Ty := (.pair (.int .i64) tySaid)
abbrev DEdge := Int × DSaid
def tyboundsError : Ty := (.pair (.int .i64) (.pair (.int .i64) (.pair .bool (.int .u8))))
abbrev DboundsError := Int × Int × Bool × Int
def tyChange : Ty := (.pair (.int .i64) (.sl tyNode))
abbrev DChange := Int × Bool × List DNode
def tyl11Walk : Ty := (.pair (.sl (.sl (.int .i64))) (.pair (.sl .bool) (.sl (.int .i64))))
abbrev Dl11Walk := (Bool × List (Bool × List Int)) × (Bool × List Bool) × Bool × List Int
def tyFinding : Ty := (.pair (.int .i64) (.pair (.sl (.int .i64)) (.pair (.int .i64) tySight)))
abbrev DFinding := Int × (Bool × List Int) × Int × DSight
def tyCommand : Ty := (.pair (.sl tyNode) (.sl tyChange))
abbrev DCommand := (Bool × List DNode) × Bool × List DChange
def tyOutcome : Ty := (.pair (.int .i64) (.pair (.sl (.int .i64)) (.pair (.sl (.int .i64)) (.pair (.int .i64) tySight))))
abbrev DOutcome := Int × (Bool × List Int) × (Bool × List Int) × Int × DSight
def tyAuto : Ty := (.pair (.int .i64) (.pair (.sl (.int .i64)) (.pair (.sl tyEdge) (.sl (.sl (.int .i64))))))
abbrev DAuto := Int × (Bool × List Int) × (Bool × List DEdge) × Bool × List (Bool × List Int)
def tytarjan : Ty := (.pair (.sl (.sl (.int .i64))) (.pair (.sl (.int .i64)) (.pair (.sl (.int .i64)) (.pair (.sl (.int .i64)) (.pair (.sl (.int .i64)) (.int .i64))))))
abbrev Dtarjan := (Bool × List (Bool × List Int)) × (Bool × List Int) × (Bool × List Int) × (Bool × List Int) × (Bool × List Int) × Int
def tyProgram : Ty := (.pair (.int .i64) (.pair (.int .i64) (.pair (.sl tyNode) (.sl tyCommand))))
abbrev DProgram := Int × Int × (Bool × List DNode) × Bool × List DCommand
def tyQuestion : Ty := (.pair tyProgram (.pair (.sl (.sl tyNode)) (.sl tySaid)))
abbrev DQuestion := DProgram × (Bool × List (Bool × List DNode)) × Bool × List DSaid
noncomputable def h_laws_szNodeS : FnH := ⟨38, Tryz.f38, (.tup (.v (.sl tyNode)) (.tup (.v (.int .i64)) .unit)), (.tup (.v (.int .i64)) .unit), [], [], [], [], [], none⟩
noncomputable def h_laws_szChange : FnH := ⟨287, Tryz.f287, (.tup (.v tyChange) (.tup (.v (.int .i64)) .unit)), (.tup (.v (.int .i64)) .unit), [], [], [], [], [], none⟩
noncomputable def h_laws_szChangeS : FnH := ⟨211, Tryz.f211, (.tup (.v (.sl tyChange)) (.tup (.v (.int .i64)) .unit)), (.tup (.v (.int .i64)) .unit), [], [], [(0, ⟨[(0, (.v (.sl tyChange))), (1, (.v (.int .i64))), (5, (.v (.int .i64)))], [(.ret, [(4, (.v (.int .i64)))]), (.exit 0, [(1, (.v (.int .i64)))])], []⟩)], [], [], none⟩
noncomputable def h_laws_szCommand : FnH := ⟨135, Tryz.f135, (.tup (.v tyCommand) (.tup (.v (.int .i64)) .unit)), (.tup (.v (.int .i64)) .unit), [], [], [], [], [], none⟩
noncomputable def h_laws_szCommandS : FnH := ⟨69, Tryz.f69, (.tup (.v (.sl tyCommand)) (.tup (.v (.int .i64)) .unit)), (.tup (.v (.int .i64)) .unit), [], [], [(0, ⟨[(0, (.v (.sl tyCommand))), (1, (.v (.int .i64))), (5, (.v (.int .i64)))], [(.ret, [(4, (.v (.int .i64)))]), (.exit 0, [(1, (.v (.int .i64)))])], []⟩)], [], [], none⟩
noncomputable def h_laws_szProgram : FnH := ⟨24, Tryz.f24, (.tup (.v tyProgram) (.tup (.v (.int .i64)) .unit)), (.tup (.v (.int .i64)) .unit), [], [], [], [], [], none⟩
noncomputable def h_laws_szIntS : FnH := ⟨70, Tryz.f70, (.tup (.v (.sl (.int .i64))) (.tup (.v (.int .i64)) .unit)), (.tup (.v (.int .i64)) .unit), [], [], [], [], [], none⟩
noncomputable def h_laws_szSight : FnH := ⟨25, Tryz.f25, (.tup (.v tySight) (.tup (.v (.int .i64)) .unit)), (.tup (.v (.int .i64)) .unit), [], [], [], [], [], none⟩
noncomputable def h_laws_toNode : FnH := ⟨89, Tryz.f89, (.tup (.v tyNode) .unit), (.tup (.v tyNode) .unit), [], [], [], [], [], none⟩
noncomputable def h_laws_toNodeS : FnH := ⟨40, Tryz.f40, (.tup (.v (.sl tyNode)) .unit), (.tup (.own 206850 tyNode true) .unit), [], [], [(0, ⟨[(0, (.v (.sl tyNode))), (3, (.own 206849 tyNode true)), (4, (.v (.int .i64)))], [(.exit 0, [(1206849, (.own 206849 tyNode true))])], [3]⟩)], [], [], none⟩
noncomputable def h_laws_toChange : FnH := ⟨288, Tryz.f288, (.tup (.v tyChange) .unit), (.tup (.pair (.v (.int .i64)) (.own 206851 tyNode true)) .unit), [], [], [], [], [], none⟩
noncomputable def h_laws_toChangeS : FnH := ⟨217, Tryz.f217, (.tup (.v (.sl tyChange)) .unit), (.tup (.own 206853 tyChange true) .unit), [], [], [(0, ⟨[(0, (.v (.sl tyChange))), (3, (.own 206852 tyChange true)), (4, (.v (.int .i64)))], [(.exit 0, [(1206852, (.own 206852 tyChange true))])], [3]⟩)], [], [], none⟩
noncomputable def h_laws_toCommand : FnH := ⟨141, Tryz.f141, (.tup (.v tyCommand) .unit), (.tup (.pair (.own 206854 tyNode true) (.own 206855 tyChange true)) .unit), [], [], [], [], [], none⟩
noncomputable def h_laws_toCommandS : FnH := ⟨75, Tryz.f75, (.tup (.v (.sl tyCommand)) .unit), (.tup (.own 206857 tyCommand true) .unit), [], [], [(0, ⟨[(0, (.v (.sl tyCommand))), (3, (.own 206856 tyCommand true)), (4, (.v (.int .i64)))], [(.exit 0, [(1206856, (.own 206856 tyCommand true))])], [3]⟩)], [], [], none⟩
noncomputable def h_laws_toProgram : FnH := ⟨27, Tryz.f27, (.tup (.v tyProgram) .unit), (.tup (.pair (.v (.int .i64)) (.pair (.v (.int .i64)) (.pair (.own 206858 tyNode true) (.own 206859 tyCommand true)))) .unit), [], [], [], [], [], none⟩
noncomputable def h_laws_toIntS : FnH := ⟨29, Tryz.f29, (.tup (.v (.sl (.int .i64))) .unit), (.tup (.own 206861 (.int .i64) true) .unit), [], [], [(0, ⟨[(0, (.v (.sl (.int .i64)))), (3, (.own 206860 (.int .i64) true)), (4, (.v (.int .i64)))], [(.exit 0, [(1206860, (.own 206860 (.int .i64) true))])], [3]⟩)], [], [], none⟩
noncomputable def h_laws_toSight : FnH := ⟨28, Tryz.f28, (.tup (.v tySight) .unit), (.tup (.one (.own 206862 (.int .i64) true)) .unit), [], [], [], [], [], none⟩
noncomputable def h_spec_l1In : FnH := ⟨116, Tryz.f116, (.tup (.v (.int .i64)) (.tup (.v (.int .i64)) (.tup (.v (.int .i64)) .unit))), (.tup (.v .bool) .unit), [], [], [], [], [], none⟩
noncomputable def h_spec_l1Wide : FnH := ⟨272, Tryz.f272, (.tup (.v (.int .i64)) .unit), (.tup (.v .bool) .unit), [], [], [], [], [], none⟩
noncomputable def h_spec_l2Need : FnH := ⟨273, Tryz.f273, (.tup (.v (.int .i64)) .unit), (.tup (.v (.int .i64)) (.tup (.v (.int .i64)) (.tup (.v (.int .i64)) .unit))), [], [], [], [], [], none⟩
noncomputable def h_spec_l1Cut : FnH := ⟨307, Tryz.f307, (.tup (.v (.int .i64)) (.tup (.v (.int .u64)) .unit)), (.tup (.v (.int .u64)) .unit), [], [], [(0, ⟨[(0, (.v (.int .i64))), (1, (.v (.int .u64))), (5, (.v (.int .u64))), (6, (.v (.int .i64)))], [(.exit 0, [(5, (.v (.int .u64)))])], []⟩)], [], [], none⟩
noncomputable def h_spec_GoodWord : FnH := ⟨330, Tryz.f330, (.tup (.v (.int .i64)) (.tup (.v (.int .u64)) .unit)), (.tup (.v .bool) .unit), [], [], [], [], [], none⟩
noncomputable def h_spec_l2N : FnH := ⟨274, Tryz.f274, (.tup (.v (.int .i64)) (.tup (.v (.int .i64)) (.tup (.v tyNode) .unit))), (.tup (.v .bool) .unit), [], [], [], [], [], none⟩
noncomputable def h_spec_l2Kind : FnH := ⟨203, Tryz.f203, (.tup (.v (.int .i64)) (.tup (.v (.int .i64)) (.tup (.v (.sl tyNode)) .unit))), (.tup (.v (.int .i64)) .unit), [], [], [(0, ⟨[(0, (.v (.int .i64))), (1, (.v (.int .i64))), (7, (.own 206863 (.int .i64) true)), (27, (.v (.sl tyNode))), (28, (.v (.int .i64))), (29, (.v (.int .i64)))], [(.ret, [(6, (.v (.int .i64)))]), (.exit 0, [(7, (.own 206866 (.int .i64) true))])], []⟩), (2, ⟨[(0, (.v (.int .i64))), (1, (.v (.int .i64))), (7, (.own 206864 (.int .i64) true)), (10, (.v (.int .i64))), (11, (.v (.int .i64))), (12, (.v (.int .i64))), (27, (.v (.sl tyNode))), (28, (.v (.int .i64))), (29, (.v (.int .i64)))], [(.ret, [(6, (.v (.int .i64)))]), (.exit 2, [(7, (.own 206865 (.int .i64) true))])], [0, 1, 12, 27, 28, 29]⟩)], [], [], none⟩
noncomputable def h_spec_l7Asks : FnH := ⟨123, Tryz.f123, (.tup (.v tyProgram) (.tup (.v (.sl tyNode)) .unit)), (.tup (.v .bool) .unit), [], [], [], [], [], none⟩
noncomputable def h_spec_l7Command : FnH := ⟨269, Tryz.f269, (.tup (.v tyProgram) (.tup (.v tyCommand) .unit)), (.tup (.v .bool) .unit), [], [], [(0, ⟨[(2, (.sp tyProgram)), (3, (.sp tyCommand)), (21, (.v (.sl tyChange))), (22, (.v (.int .i64))), (23, (.v (.int .i64)))], [(.ret, [(4, (.v .bool))]), (.exit 0, [])], []⟩)], [], [], none⟩
noncomputable def h_spec_GoodProgram : FnH := ⟨200, Tryz.f200, (.tup (.v tyProgram) .unit), (.tup (.v .bool) .unit), [], [], [(0, ⟨[(1, (.sp tyProgram)), (18, (.v (.sl tyCommand))), (19, (.v (.int .i64))), (20, (.v (.int .i64)))], [(.ret, [(2, (.v .bool))]), (.exit 0, [])], []⟩)], [], [], none⟩
noncomputable def h_spec_l7Small : FnH := ⟨121, Tryz.f121, (.tup (.v tyProgram) .unit), (.tup (.v .bool) .unit), [], [], [], [], [], none⟩
noncomputable def h_spec_l7Many : FnH := ⟨159, Tryz.f159, (.tup (.v tyProgram) .unit), (.tup (.v (.int .i64)) .unit), [], [], [], [], [], none⟩
noncomputable def h_spec_GoodSight : FnH := ⟨136, Tryz.f136, (.tup (.v tyProgram) (.tup (.v tySight) .unit)), (.tup (.v .bool) .unit), [], [], [(0, ⟨[(5, (.v (.int .i64))), (20, (.v (.sl (.int .i64)))), (21, (.v (.int .i64))), (22, (.v (.int .i64)))], [(.ret, [(4, (.v .bool))]), (.exit 0, [])], []⟩)], [], [], none⟩
noncomputable def h_spec_l15Many : FnH := ⟨188, Tryz.f188, (.tup (.v tySight) .unit), (.tup (.v (.int .i64)) .unit), [], [], [(0, ⟨[(3, (.v (.int .i64))), (7, (.v (.sl (.int .i64)))), (8, (.v (.int .i64))), (9, (.v (.int .i64)))], [(.exit 0, [(3, (.v (.int .i64)))])], []⟩)], [], [], none⟩
noncomputable def h_spec_l1All : FnH := ⟨212, Tryz.f212, (.tup (.v (.sl (.int .i64))) (.tup (.v (.int .i64)) (.tup (.v (.int .i64)) .unit))), (.tup (.v .bool) .unit), [], [], [(0, ⟨[(1, (.v (.int .i64))), (2, (.v (.int .i64))), (9, (.v (.sl (.int .i64)))), (10, (.v (.int .i64))), (11, (.v (.int .i64)))], [(.ret, [(6, (.v .bool))]), (.exit 0, [])], []⟩)], [], [], none⟩
noncomputable def h_spec_l19Classes : FnH := ⟨137, Tryz.f137, (.tup (.v tySight) (.tup (.v (.sl (.int .i64))) .unit)), (.tup (.v .bool) .unit), [], [], [], [], [], none⟩
noncomputable def h_spec_l19Path : FnH := ⟨71, Tryz.f71, (.tup (.v tyProgram) (.tup (.v tySight) (.tup (.v (.sl (.int .i64))) .unit))), (.tup (.v .bool) .unit), [], [], [], [], [], none⟩
noncomputable def h_spec_l7Of : FnH := ⟨176, Tryz.f176, (.tup (.v tyProgram) (.tup (.v (.int .i64)) .unit)), (.tup (.own 206870 (.int .u64) true) .unit), [], [], [(0, ⟨[(1, (.v (.int .i64))), (2, (.sp tyProgram)), (5, (.own 206868 (.int .u64) true)), (6, (.v (.int .i64)))], [(.exit 0, [(5, (.own 206869 (.int .u64) true))])], []⟩)], [], [], none⟩
noncomputable def h_spec_l2From : FnH := ⟨309, Tryz.f309, (.tup (.v (.sl tyNode)) (.tup (.v (.int .i64)) .unit)), (.tup (.v (.int .i64)) .unit), [], [], [(0, ⟨[(0, (.v (.sl tyNode))), (5, (.v (.int .i64))), (8, (.v (.int .i64)))], [(.exit 0, [(8, (.v (.int .i64)))])], []⟩)], [], [], none⟩
noncomputable def h_spec_l1Both : FnH := ⟨369, Tryz.f369, (.tup (.v (.int .i64)) (.tup (.v (.int .u64)) (.tup (.v (.int .u64)) .unit))), (.tup (.v .bool) .unit), [], [], [], [], [], none⟩
noncomputable def h_spec_DivWord : FnH := ⟨343, Tryz.f343, (.tup (.v (.int .i64)) (.tup (.v (.int .u64)) (.tup (.v (.int .u64)) .unit))), (.tup (.v (.int .u64)) (.tup (.v (.int .u64)) (.tup (.v .bool) .unit))), [], [], [], [], [], none⟩
noncomputable def h_spec_l1Shift : FnH := ⟨344, Tryz.f344, (.tup (.v (.int .i64)) (.tup (.v (.int .u64)) (.tup (.v (.int .u64)) (.tup (.v .bool) .unit)))), (.tup (.v (.int .u64)) .unit), [], [], [(0, ⟨[(0, (.v (.int .i64))), (1, (.v (.int .u64))), (2, (.v (.int .u64))), (3, (.v .bool))], [(.exit 0, [(1, (.v (.int .u64)))])], []⟩)], [], [], none⟩
noncomputable def h_spec_l2Bool : FnH := ⟨345, Tryz.f345, (.tup (.v .bool) .unit), (.tup (.v (.int .u64)) .unit), [], [], [], [], [], none⟩
noncomputable def h_spec_l1Signed : FnH := ⟨346, Tryz.f346, (.tup (.v (.int .i64)) (.tup (.v (.int .u64)) .unit)), (.tup (.v (.int .i64)) .unit), [], [], [], [], [], none⟩
noncomputable def h_spec_l2Do : FnH := ⟨308, Tryz.f308, (.tup (.v (.int .i64)) (.tup (.v (.int .i64)) (.tup (.v (.int .u64)) (.tup (.v (.int .u64)) .unit)))), (.tup (.v (.int .u64)) .unit), [], [], [], [], [], none⟩
noncomputable def h_spec_l2Value : FnH := ⟨240, Tryz.f240, (.tup (.v (.int .i64)) (.tup (.v (.sl tyNode)) (.tup (.v (.int .i64)) (.tup (.v (.sl (.int .u64))) .unit)))), (.tup (.v (.int .u64)) .unit), [], [], [], [], [], none⟩
noncomputable def h_spec_l7Holds : FnH := ⟨175, Tryz.f175, (.tup (.v tyProgram) (.tup (.v (.sl tyNode)) (.tup (.v (.sl (.int .u64))) .unit))), (.tup (.v .bool) .unit), [], [], [], [], [], none⟩
noncomputable def h_spec_l8Those : FnH := ⟨99, Tryz.f99, (.tup (.v tyProgram) (.tup (.v (.sl tyNode)) .unit)), (.tup (.own 206872 (.int .i64) true) .unit), [], [], [(0, ⟨[(1, (.v (.sl tyNode))), (2, (.sp tyProgram)), (5, (.own 206867 (.int .i64) true)), (6, (.v (.int .i64)))], [(.exit 0, [(5, (.own 206871 (.int .i64) true))])], []⟩)], [], [], none⟩
noncomputable def h_spec_l7Enabled : FnH := ⟨214, Tryz.f214, (.tup (.v tyProgram) (.tup (.v (.sl (.int .u64))) .unit)), (.tup (.own 206880 (.int .i64) true) .unit), [], [], [(0, ⟨[(1, (.v (.sl (.int .u64)))), (2, (.sp tyProgram)), (5, (.own 206878 (.int .i64) true)), (9, (.v (.sl tyCommand))), (10, (.v (.int .i64))), (11, (.v (.int .i64)))], [(.exit 0, [(5, (.own 206879 (.int .i64) true))])], []⟩)], [], [], none⟩
noncomputable def h_spec_l7Do : FnH := ⟨216, Tryz.f216, (.tup (.v tyProgram) (.tup (.v (.sl (.int .u64))) (.tup (.v (.int .i64)) .unit))), (.tup (.own 206883 (.int .u64) true) .unit), [], [], [(0, ⟨[(1, (.v (.sl (.int .u64)))), (3, (.sp tyProgram)), (7, (.own 206882 (.int .u64) true)), (18, (.v (.sl tyChange))), (19, (.v (.int .i64))), (20, (.v (.int .i64)))], [(.exit 0, [(1206882, (.own 206882 (.int .u64) true))])], [7]⟩)], [], [], none⟩
noncomputable def h_spec_l7No : FnH := ⟨215, Tryz.f215, (.tup (.v tyProgram) (.tup (.v (.sl (.int .u64))) .unit)), (.tup (.v (.int .i64)) .unit), [], [], [(0, ⟨[(1, (.v (.sl (.int .u64)))), (2, (.sp tyProgram)), (5, (.v (.int .i64))), (6, (.v (.int .i64)))], [(.exit 0, [(5, (.v (.int .i64)))])], []⟩)], [], [], none⟩
noncomputable def h_spec_l1Put : FnH := ⟨213, Tryz.f213, (.tup (.v (.sl (.int .i64))) (.tup (.v (.int .i64)) .unit)), (.tup (.v (.sl (.int .i64))) .unit), [], [], [(0, ⟨[(0, (.v (.sl (.int .i64)))), (1, (.v (.int .i64))), (5, (.v (.int .i64)))], [(.exit 0, [(5, (.v (.int .i64)))])], [0, 1]⟩)], [], [], none⟩
noncomputable def h_spec_l8Next : FnH := ⟨140, Tryz.f140, (.tup (.v tyProgram) (.tup (.v (.int .i64)) .unit)), (.tup (.v (.sl (.int .i64))) .unit), [], [], [(0, ⟨[(1, (.v (.int .i64))), (2, (.sp tyProgram)), (5, (.v (.sl (.int .u64)))), (6, (.v (.sl (.int .i64)))), (14, (.v (.sl (.int .i64)))), (15, (.v (.int .i64))), (16, (.v (.int .i64)))], [(.exit 0, [(6, (.v (.sl (.int .i64))))])], [1]⟩)], [], [], none⟩
noncomputable def h_spec_l8After : FnH := ⟨138, Tryz.f138, (.tup (.v tyProgram) (.tup (.v (.sl (.int .i64))) .unit)), (.tup (.v (.sl (.int .i64))) .unit), [], [], [(0, ⟨[(2, (.sp tyProgram)), (5, (.v (.sl (.int .i64)))), (10, (.v (.sl (.int .i64)))), (11, (.v (.int .i64))), (12, (.v (.int .i64)))], [(.exit 0, [(5, (.v (.sl (.int .i64))))])], []⟩), (2, ⟨[(2, (.sp tyProgram)), (5, (.v (.sl (.int .i64)))), (10, (.v (.sl (.int .i64)))), (11, (.v (.int .i64))), (12, (.v (.int .i64))), (18, (.v (.sl (.int .i64)))), (19, (.v (.int .i64))), (20, (.v (.int .i64)))], [(.exit 2, [(5, (.v (.sl (.int .i64))))])], [2, 10, 11, 12]⟩)], [], [], none⟩
noncomputable def h_spec_l19Along : FnH := ⟨72, Tryz.f72, (.tup (.v tyProgram) (.tup (.v tySight) (.tup (.v (.sl (.int .i64))) .unit))), (.tup (.own 206888 (.sl (.int .i64)) false) .unit), [], [], [(0, ⟨[(3, (.sp tyProgram)), (4, (.sp tySight)), (7, (.own 206873 (.sl (.int .i64)) false)), (8, (.v (.sl (.int .i64)))), (18, (.v (.sl (.int .i64)))), (19, (.v (.int .i64))), (20, (.v (.int .i64)))], [(.exit 0, [(7, (.own 206887 (.sl (.int .i64)) false))])], []⟩), (2, ⟨[(3, (.sp tyProgram)), (4, (.sp tySight)), (7, (.v (.sl (.sl (.int .i64))))), (10, (.v (.int .i64))), (11, (.own 206875 (.int .i64) true)), (18, (.v (.sl (.int .i64)))), (19, (.v (.int .i64))), (20, (.v (.int .i64))), (24, (.v (.sl (.int .i64)))), (25, (.v (.int .i64))), (26, (.v (.int .i64)))], [(.exit 2, [(11, (.own 206876 (.int .i64) true))])], [3, 4, 7, 18, 19, 20]⟩)], [], [44], none⟩
noncomputable def h_spec_l19Fails : FnH := ⟨73, Tryz.f73, (.tup (.v (.sl (.sl (.int .i64)))) .unit), (.tup (.v (.int .i64)) .unit), [], [], [(0, ⟨[(5, (.v (.sl (.sl (.int .i64))))), (6, (.v (.int .i64))), (7, (.v (.int .i64)))], [(.ret, [(2, (.v (.int .i64)))]), (.exit 0, [])], []⟩)], [], [], none⟩
noncomputable def h_spec_l1Has : FnH := ⟨98, Tryz.f98, (.tup (.v (.sl (.int .i64))) (.tup (.v (.int .i64)) .unit)), (.tup (.v .bool) .unit), [], [], [(0, ⟨[(1, (.v (.int .i64))), (7, (.v (.sl (.int .i64)))), (8, (.v (.int .i64))), (9, (.v (.int .i64)))], [(.ret, [(4, (.v .bool))]), (.exit 0, [])], []⟩)], [], [], none⟩
noncomputable def h_spec_l7Meet : FnH := ⟨139, Tryz.f139, (.tup (.v (.sl (.int .i64))) (.tup (.v (.sl (.int .i64))) .unit)), (.tup (.v .bool) .unit), [], [], [(0, ⟨[(1, (.v (.sl (.int .i64)))), (7, (.v (.sl (.int .i64)))), (8, (.v (.int .i64))), (9, (.v (.int .i64)))], [(.ret, [(4, (.v .bool))]), (.exit 0, [])], []⟩)], [], [], none⟩
noncomputable def h_spec_l19Real : FnH := ⟨74, Tryz.f74, (.tup (.v tyProgram) (.tup (.v (.sl (.sl (.int .i64)))) .unit)), (.tup (.own 206896 (.int .i64) true) .unit), [], [], [(0, ⟨[(1, (.v (.sl (.sl (.int .i64))))), (2, (.sp tyProgram)), (5, (.own 206891 (.sl (.int .i64)) false)), (6, (.v (.int .i64)))], [(.exit 0, [(1206891, (.own 206891 (.sl (.int .i64)) false))])], [2, 5]⟩), (2, ⟨[(1, (.v (.sl (.sl (.int .i64))))), (2, (.sp tyProgram)), (5, (.v (.sl (.sl (.int .i64))))), (6, (.v (.int .i64))), (7, (.own 206889 (.int .i64) true)), (27, (.v (.sl (.int .i64)))), (28, (.v (.int .i64))), (29, (.v (.int .i64)))], [(.exit 2, [(7, (.own 206890 (.int .i64) true))])], [1, 2, 5, 6]⟩), (4, ⟨[(2, (.sp tyProgram)), (5, (.v (.sl (.sl (.int .i64))))), (10, (.own 206892 (.int .i64) true)), (11, (.v (.int .i64)))], [(.exit 4, [(10, (.own 206895 (.int .i64) true))])], []⟩), (6, ⟨[(2, (.sp tyProgram)), (5, (.v (.sl (.sl (.int .i64))))), (10, (.own 206893 (.int .i64) true)), (11, (.v (.int .i64))), (69, (.v (.sl (.int .i64)))), (70, (.v (.int .i64))), (71, (.v (.int .i64)))], [(.exit 6, [(1206893, .any), (10, (.own 206894 (.int .i64) true))])], [2, 5, 11]⟩)], [], [], none⟩
noncomputable def h_spec_RealPath : FnH := ⟨26, Tryz.f26, (.tup (.v tyProgram) (.tup (.v tySight) (.tup (.v (.sl (.int .i64))) .unit))), (.tup (.own 206897 (.int .i64) true) (.tup (.v .bool) .unit)), [], [], [], [], [], none⟩
noncomputable def h_impl_isWide : FnH := ⟨275, Tryz.f275, (.tup (.v (.int .i64)) .unit), (.tup (.v .bool) .unit), [], [], [], [], [], none⟩
noncomputable def h_impl_isVars : FnH := ⟨276, Tryz.f276, (.tup (.v (.int .i64)) .unit), (.tup (.v .bool) .unit), [], [], [], [], [], none⟩
noncomputable def h_impl_operandsOf : FnH := ⟨334, Tryz.f334, (.tup (.v (.int .i64)) .unit), (.tup (.v (.int .i64)) (.tup (.v (.int .i64)) (.tup (.v (.int .i64)) .unit))), [], [], [], [], [], none⟩
noncomputable def h_impl_mask : FnH := ⟨183, Tryz.f183, (.tup (.v (.int .i64)) .unit), (.tup (.v (.int .u64)) .unit), [], [], [], [], [], none⟩
noncomputable def h_impl_GoodWord : FnH := ⟨364, Tryz.f364, (.tup (.v (.int .i64)) (.tup (.v (.int .u64)) .unit)), (.tup (.v .bool) .unit), [], [], [], [], [], none⟩
noncomputable def h_impl_isLeafRight : FnH := ⟨335, Tryz.f335, (.tup (.v (.int .i64)) (.tup (.v (.int .i64)) (.tup (.v tyNode) .unit))), (.tup (.v .bool) .unit), [], [], [], [], [], none⟩
noncomputable def h_impl_GoodTerm_1 : FnH := ⟨336, Tryz.f336, (.tup (.v (.int .i64)) (.tup (.sp (.int .i64)) .unit)), (.tup (.v .bool) .unit), [], [], [], [], [], none⟩
noncomputable def h_slices_IndexFunc_int_by_GoodTerm_1 : FnH := ⟨152, Tryz.f152, (.tup (.v (.sl (.int .i64))) (.tup (.v (.fn 336 (.pair (.int .i64) .nil))) .unit)), (.tup (.v (.int .i64)) .unit), [], [], [(0, ⟨[(0, (.v (.sl (.int .i64)))), (1, (.v (.fn 336 (.pair (.int .i64) .nil)))), (7, (.v (.int .i64))), (8, (.v (.int .i64)))], [(.ret, [(4, (.v (.int .i64)))]), (.exit 0, [])], []⟩)], [], [], none⟩
noncomputable def h_slices_ContainsFunc_int_by_GoodTerm_1 : FnH := ⟨144, Tryz.f144, (.tup (.v (.sl (.int .i64))) (.tup (.v (.fn 336 (.pair (.int .i64) .nil))) .unit)), (.tup (.v .bool) .unit), [], [], [], [], [], none⟩
noncomputable def h_impl_GoodTerm : FnH := ⟨284, Tryz.f284, (.tup (.v (.int .i64)) (.tup (.v (.int .i64)) (.tup (.v (.sl tyNode)) .unit))), (.tup (.v .bool) .unit), [], [], [(0, ⟨[(0, (.v (.int .i64))), (1, (.v (.int .i64))), (7, (.own 206898 (.int .i64) true)), (33, (.v (.sl tyNode))), (34, (.v (.int .i64))), (35, (.v (.int .i64)))], [(.ret, [(6, (.v .bool))]), (.exit 0, [(7, (.own 206899 (.int .i64) true))])], []⟩)], [], [], none⟩
noncomputable def h_impl_kindOf : FnH := ⟨285, Tryz.f285, (.tup (.v (.sl tyNode)) .unit), (.tup (.v (.int .i64)) .unit), [], [], [], [], [], none⟩
noncomputable def h_impl_isTermOf : FnH := ⟨208, Tryz.f208, (.tup (.v (.int .i64)) (.tup (.v (.int .i64)) (.tup (.v (.sl tyNode)) (.tup (.v (.int .i64)) .unit)))), (.tup (.v .bool) .unit), [], [], [], [], [], none⟩
noncomputable def h_impl_Program_isCondition : FnH := ⟨129, Tryz.f129, (.tup (.v tyProgram) (.tup (.v (.sl tyNode)) .unit)), (.tup (.v .bool) .unit), [], [], [], [], [], none⟩
noncomputable def h_impl_Program_isCommand : FnH := ⟨279, Tryz.f279, (.tup (.v tyProgram) (.tup (.v tyCommand) .unit)), (.tup (.v .bool) .unit), [], [], [(0, ⟨[(2, (.sp tyProgram)), (3, (.sp tyCommand)), (13, (.v (.sl tyChange))), (14, (.v (.int .i64))), (15, (.v (.int .i64)))], [(.ret, [(4, (.v .bool))]), (.exit 0, [])], []⟩)], [], [], none⟩
noncomputable def h_impl_GoodProgram_1 : FnH := ⟨278, Tryz.f278, (.tup (.v tyCommand) (.tup (.sp tyProgram) .unit)), (.tup (.v .bool) .unit), [], [], [], [], [], none⟩
noncomputable def h_slices_IndexFunc_Command_by_GoodProgram_1 : FnH := ⟨331, Tryz.f331, (.tup (.v (.sl tyCommand)) (.tup (.v (.fn 278 (.pair tyProgram .nil))) .unit)), (.tup (.v (.int .i64)) .unit), [], [], [(0, ⟨[(0, (.v (.sl tyCommand))), (1, (.v (.fn 278 (.pair tyProgram .nil)))), (7, (.v (.int .i64))), (8, (.v (.int .i64)))], [(.ret, [(4, (.v (.int .i64)))]), (.exit 0, [])], []⟩)], [], [], none⟩
noncomputable def h_slices_ContainsFunc_Command_by_GoodProgram_1 : FnH := ⟨277, Tryz.f277, (.tup (.v (.sl tyCommand)) (.tup (.v (.fn 278 (.pair tyProgram .nil))) .unit)), (.tup (.v .bool) .unit), [], [], [], [], [], none⟩
noncomputable def h_impl_GoodProgram : FnH := ⟨204, Tryz.f204, (.tup (.v tyProgram) .unit), (.tup (.v .bool) .unit), [], [], [], [], [], none⟩
noncomputable def h_impl_isSmall : FnH := ⟨125, Tryz.f125, (.tup (.v tyProgram) .unit), (.tup (.v .bool) .unit), [], [], [], [], [], none⟩
noncomputable def h_impl_Program_states : FnH := ⟨131, Tryz.f131, (.tup (.v tyProgram) .unit), (.tup (.v (.int .i64)) .unit), [], [], [], [], [], none⟩
noncomputable def h_impl_isSight : FnH := ⟨218, Tryz.f218, (.tup (.v tySight) (.tup (.v (.int .i64)) .unit)), (.tup (.v .bool) .unit), [], [], [(0, ⟨[(1, (.v (.int .i64))), (2, (.sp tySight)), (5, (.v (.int .i64))), (9, (.v (.sl (.int .i64)))), (10, (.v (.int .i64))), (11, (.v (.int .i64)))], [(.ret, [(4, (.v .bool))]), (.exit 0, [])], [1, 2]⟩)], [], [], none⟩
noncomputable def h_impl_GoodSight : FnH := ⟨142, Tryz.f142, (.tup (.v tyProgram) (.tup (.v tySight) .unit)), (.tup (.v .bool) .unit), [], [], [], [], [], none⟩
noncomputable def h_slices_Max_int : FnH := ⟨219, Tryz.f219, (.tup (.v (.sl (.int .i64))) .unit), (.tup (.v (.int .i64)) .unit), [], [], [(0, ⟨[(0, (.v (.sl (.int .i64)))), (3, (.v (.int .i64))), (4, (.v (.int .i64)))], [(.exit 0, [(3, (.v (.int .i64)))])], []⟩)], [], [], none⟩
noncomputable def h_impl_Sight_classes : FnH := ⟨143, Tryz.f143, (.tup (.v tySight) .unit), (.tup (.v (.int .i64)) .unit), [], [], [], [], [], none⟩
noncomputable def h_impl_isClassPath_1 : FnH := ⟨145, Tryz.f145, (.tup (.v (.int .i64)) (.tup (.sp (.int .i64)) .unit)), (.tup (.v .bool) .unit), [], [], [], [], [], none⟩
noncomputable def h_slices_IndexFunc_int_by_isClassPath_1 : FnH := ⟨152, Tryz.f152, (.tup (.v (.sl (.int .i64))) (.tup (.v (.fn 145 (.pair (.int .i64) .nil))) .unit)), (.tup (.v (.int .i64)) .unit), [], [], [(0, ⟨[(0, (.v (.sl (.int .i64)))), (1, (.v (.fn 145 (.pair (.int .i64) .nil)))), (7, (.v (.int .i64))), (8, (.v (.int .i64)))], [(.ret, [(4, (.v (.int .i64)))]), (.exit 0, [])], []⟩)], [], [], none⟩
noncomputable def h_slices_ContainsFunc_int_by_isClassPath_1 : FnH := ⟨144, Tryz.f144, (.tup (.v (.sl (.int .i64))) (.tup (.v (.fn 145 (.pair (.int .i64) .nil))) .unit)), (.tup (.v .bool) .unit), [], [(7, 10085)], [], [], [], none⟩
noncomputable def h_impl_isClassPath : FnH := ⟨76, Tryz.f76, (.tup (.v tyProgram) (.tup (.v tySight) (.tup (.v (.sl (.int .i64))) (.tup (.v (.int .i64)) .unit)))), (.tup (.v .bool) .unit), [], [(29, 10084)], [], [], [], none⟩
noncomputable def h_impl_Program_stateOf : FnH := ⟨106, Tryz.f106, (.tup (.v tyProgram) (.tup (.v (.int .i64)) .unit)), (.tup (.own 206903 (.int .u64) true) .unit), [], [], [(0, ⟨[(1, (.v (.int .i64))), (2, (.sp tyProgram)), (5, (.own 206901 (.int .u64) true)), (9, (.v (.int .i64))), (10, (.v (.int .i64)))], [(.exit 0, [(5, (.own 206902 (.int .u64) true))])], []⟩)], [], [], none⟩
noncomputable def h_impl_areWords : FnH := ⟨347, Tryz.f347, (.tup (.v (.int .i64)) (.tup (.v (.int .u64)) (.tup (.v (.int .u64)) .unit))), (.tup (.v .bool) .unit), [], [], [], [], [], none⟩
noncomputable def h_bits_Div64 : FnH := ⟨348, Tryz.f348, (.tup (.v (.int .u64)) (.tup (.v (.int .u64)) (.tup (.v (.int .u64)) .unit))), (.tup (.v (.int .u64)) (.tup (.v (.int .u64)) .unit)), [], [], [], [], [], none⟩
noncomputable def h_impl_DivWord : FnH := ⟨311, Tryz.f311, (.tup (.v (.int .i64)) (.tup (.v (.int .u64)) (.tup (.v (.int .u64)) .unit))), (.tup (.v (.int .u64)) (.tup (.v (.int .u64)) (.tup (.v .bool) .unit))), [], [], [], [], [], none⟩
noncomputable def h_impl_shift : FnH := ⟨312, Tryz.f312, (.tup (.v (.int .i64)) (.tup (.v (.int .u64)) (.tup (.v (.int .u64)) (.tup (.v .bool) .unit)))), (.tup (.v (.int .u64)) .unit), [], [], [], [], [], none⟩
noncomputable def h_impl_truth : FnH := ⟨313, Tryz.f313, (.tup (.v .bool) .unit), (.tup (.v (.int .u64)) .unit), [], [], [], [], [], none⟩
noncomputable def h_impl_signed : FnH := ⟨314, Tryz.f314, (.tup (.v (.int .i64)) (.tup (.v (.int .u64)) .unit)), (.tup (.v (.int .i64)) .unit), [], [], [], [], [], none⟩
noncomputable def h_impl_apply : FnH := ⟨243, Tryz.f243, (.tup (.v (.int .i64)) (.tup (.v (.int .i64)) (.tup (.v (.int .u64)) (.tup (.v (.int .u64)) .unit)))), (.tup (.v (.int .u64)) .unit), [], [], [], [], [], none⟩
noncomputable def h_impl_valueOf : FnH := ⟨182, Tryz.f182, (.tup (.v (.int .i64)) (.tup (.v (.sl tyNode)) (.tup (.v (.sl (.int .u64))) .unit))), (.tup (.v (.int .u64)) .unit), [], [], [(0, ⟨[(0, (.v (.int .i64))), (2, (.v (.sl (.int .u64)))), (7, (.own 206905 (.int .u64) true)), (12, (.v (.sl tyNode))), (13, (.v (.int .i64))), (14, (.v (.int .i64)))], [(.exit 0, [(7, (.own 206906 (.int .u64) true))])], []⟩)], [], [], none⟩
noncomputable def h_impl_Program_holds : FnH := ⟨105, Tryz.f105, (.tup (.v tyProgram) (.tup (.v (.sl tyNode)) (.tup (.v (.sl (.int .u64))) .unit))), (.tup (.v .bool) .unit), [], [], [], [], [], none⟩
noncomputable def h_slices_Clone_uint64 : FnH := ⟨337, Tryz.f337, (.tup (.v (.sl (.int .u64))) .unit), (.tup (.own 206907 (.int .u64) true) .unit), [], [], [], [], [], none⟩
noncomputable def h_impl_Program_after : FnH := ⟨290, Tryz.f290, (.tup (.v tyProgram) (.tup (.v tyCommand) (.tup (.v (.sl (.int .u64))) .unit))), (.tup (.own 206909 (.int .u64) true) .unit), [], [], [(0, ⟨[(2, (.v (.sl (.int .u64)))), (3, (.sp tyProgram)), (7, (.own 206908 (.int .u64) true)), (13, (.v (.sl tyChange))), (14, (.v (.int .i64))), (15, (.v (.int .i64)))], [(.exit 0, [(1206908, (.own 206908 (.int .u64) true))])], [7]⟩)], [], [], none⟩
noncomputable def h_impl_Program_stateNo : FnH := ⟨289, Tryz.f289, (.tup (.v tyProgram) (.tup (.v (.sl (.int .u64))) .unit)), (.tup (.v (.int .i64)) .unit), [], [], [(0, ⟨[(2, (.sp tyProgram)), (5, (.v (.int .i64))), (8, (.v (.sl (.int .u64)))), (9, (.v (.int .i64))), (10, (.v (.int .i64)))], [(.exit 0, [(5, (.v (.int .i64)))])], []⟩)], [], [], none⟩
noncomputable def h_slices_Sort_int : FnH := sortH 282 Tryz.f282 206912
noncomputable def h_slices_Compact_int : FnH := compactH 283 Tryz.f283 206913 206914
noncomputable def h_impl_Program_nextOf : FnH := ⟨222, Tryz.f222, (.tup (.v tyProgram) (.tup (.v (.int .i64)) .unit)), (.tup (.own 206911 (.int .i64) true) .unit), [], [], [(0, ⟨[(1, (.v (.int .i64))), (2, (.sp tyProgram)), (5, (.v (.sl (.int .u64)))), (6, (.own 206904 (.int .i64) true)), (14, (.v (.sl tyCommand))), (15, (.v (.int .i64))), (16, (.v (.int .i64)))], [(.exit 0, [(6, (.own 206910 (.int .i64) true))])], [1]⟩)], [], [], none⟩
noncomputable def h_impl_Program_graph : FnH := ⟨147, Tryz.f147, (.tup (.v tyProgram) .unit), (.tup (.own 206916 (.sl (.int .i64)) true) .unit), [], [], [(0, ⟨[(1, (.sp tyProgram)), (3, (.own 206900 (.sl (.int .i64)) true)), (7, (.v (.int .i64))), (8, (.v (.int .i64)))], [(.exit 0, [(3, (.own 206915 (.sl (.int .i64)) true))])], []⟩)], [], [], none⟩
noncomputable def h_impl_Program_where : FnH := ⟨172, Tryz.f172, (.tup (.v tyProgram) (.tup (.v (.sl tyNode)) .unit)), (.tup (.own 206919 (.int .i64) true) .unit), [], [], [(0, ⟨[(1, (.v (.sl tyNode))), (2, (.sp tyProgram)), (5, (.own 206917 (.int .i64) true)), (9, (.v (.int .i64))), (10, (.v (.int .i64)))], [(.exit 0, [(5, (.own 206918 (.int .i64) true))])], []⟩)], [], [], none⟩
noncomputable def h_impl_marked : FnH := ⟨220, Tryz.f220, (.tup (.v (.sl .bool)) .unit), (.tup (.own 206926 (.int .i64) true) .unit), [], [], [(0, ⟨[(3, (.own 206924 (.int .i64) true)), (7, (.v (.sl .bool))), (8, (.v (.int .i64))), (9, (.v (.int .i64)))], [(.exit 0, [(3, (.own 206925 (.int .i64) true))])], []⟩)], [], [], none⟩
noncomputable def h_impl_statesAlong_1 : FnH := ⟨221, Tryz.f221, (.tup (.v (.int .i64)) (.tup (.sp tySight) (.tup (.sp (.int .i64)) .unit))), (.tup (.v .bool) .unit), [], [], [], [], [], none⟩
noncomputable def h_slices_IndexFunc_int_by_statesAlong_1 : FnH := ⟨152, Tryz.f152, (.tup (.v (.sl (.int .i64))) (.tup (.v (.fn 221 (.pair tySight (.pair (.int .i64) .nil)))) .unit)), (.tup (.v (.int .i64)) .unit), [], [], [(0, ⟨[(0, (.v (.sl (.int .i64)))), (1, (.v (.fn 221 (.pair tySight (.pair (.int .i64) .nil))))), (7, (.v (.int .i64))), (8, (.v (.int .i64)))], [(.ret, [(4, (.v (.int .i64)))]), (.exit 0, [])], []⟩)], [], [], none⟩
noncomputable def h_slices_DeleteFunc_int_by_statesAlong_1 : FnH := ⟨149, Tryz.f149, (.tup (.own 206928 (.int .i64) true) (.tup (.v (.fn 221 (.pair tySight (.pair (.int .i64) .nil)))) .unit)), (.tup .any (.tup (.own 206929 (.int .i64) true) .unit)), [206928], [(10, 10109)], [(0, ⟨[(0, (.own 206927 (.int .i64) true)), (1, (.v (.fn 221 (.pair tySight (.pair (.int .i64) .nil))))), (5, (.v (.int .i64))), (6, (.v (.int .i64)))], [(.exit 0, [(1206927, (.own 206927 (.int .i64) true)), (5, (.v (.int .i64)))])], [0]⟩)], [], [], none⟩
noncomputable def h_slices_Clone_int : FnH := ⟨158, Tryz.f158, (.tup (.v (.sl (.int .i64))) .unit), (.tup (.own 206930 (.int .i64) true) .unit), [], [], [], [], [], none⟩
noncomputable def h_impl_statesAlong : FnH := ⟨146, Tryz.f146, (.tup (.v tyProgram) (.tup (.v tySight) (.tup (.v (.sl (.int .i64))) .unit))), (.tup (.own 206932 (.sl (.int .i64)) true) .unit), [], [], [(0, ⟨[(3, (.sp tyProgram)), (4, (.sp tySight)), (7, (.own 206920 (.sl (.int .i64)) true)), (8, (.v (.sl (.sl (.int .i64))))), (9, (.own 206921 (.int .i64) true)), (24, (.v (.sl (.int .i64)))), (25, (.v (.int .i64))), (26, (.v (.int .i64)))], [(.exit 0, [(7, (.own 206931 (.sl (.int .i64)) true))])], []⟩), (2, ⟨[(3, (.sp tyProgram)), (4, (.sp tySight)), (7, (.v (.sl (.sl (.int .i64))))), (8, (.v (.sl (.sl (.int .i64))))), (11, (.sp (.int .i64))), (12, (.own 206923 .bool true)), (24, (.v (.sl (.int .i64)))), (25, (.v (.int .i64))), (26, (.v (.int .i64))), (36, (.v (.sl (.int .i64)))), (37, (.v (.int .i64))), (38, (.v (.int .i64)))], [(.exit 2, [(1206923, (.own 206923 .bool true))])], [3, 4, 7, 8, 11, 12, 24, 25, 26]⟩), (4, ⟨[(3, (.sp tyProgram)), (4, (.sp tySight)), (7, (.v (.sl (.sl (.int .i64))))), (8, (.v (.sl (.sl (.int .i64))))), (11, (.sp (.int .i64))), (12, (.own 206922 .bool true)), (24, (.v (.sl (.int .i64)))), (25, (.v (.int .i64))), (26, (.v (.int .i64))), (36, (.v (.sl (.int .i64)))), (37, (.v (.int .i64))), (38, (.v (.int .i64))), (45, (.v (.sl (.int .i64)))), (46, (.v (.int .i64))), (47, (.v (.int .i64)))], [(.exit 4, [(1206922, (.own 206922 .bool true))])], [3, 4, 7, 8, 11, 12, 24, 25, 26, 36, 37, 38]⟩)], [], [], none⟩
noncomputable def h_impl_failsAt_1 : FnH := ⟨224, Tryz.f224, (.tup (.v (.sl (.int .i64))) .unit), (.tup (.v .bool) .unit), [], [], [], [], [], none⟩
noncomputable def h_slices_IndexFunc_int_by_failsAt_1 : FnH := ⟨223, Tryz.f223, (.tup (.v (.sl (.sl (.int .i64)))) (.tup (.v (.fn 224 .nil)) .unit)), (.tup (.v (.int .i64)) .unit), [], [], [(0, ⟨[(0, (.v (.sl (.sl (.int .i64))))), (1, (.v (.fn 224 .nil))), (7, (.v (.int .i64))), (8, (.v (.int .i64)))], [(.ret, [(4, (.v (.int .i64)))]), (.exit 0, [])], []⟩)], [], [], none⟩
noncomputable def h_impl_failsAt : FnH := ⟨148, Tryz.f148, (.tup (.v (.sl (.sl (.int .i64)))) .unit), (.tup (.v (.int .i64)) .unit), [], [], [], [], [], none⟩
noncomputable def h_slices_Index_int : FnH := ⟨173, Tryz.f173, (.tup (.v (.sl (.int .i64))) (.tup (.v (.int .i64)) .unit)), (.tup (.v (.int .i64)) .unit), [], [], [(0, ⟨[(0, (.v (.sl (.int .i64)))), (1, (.v (.int .i64))), (7, (.v (.int .i64))), (8, (.v (.int .i64)))], [(.ret, [(4, (.v (.int .i64)))]), (.exit 0, [])], []⟩)], [], [], none⟩
noncomputable def h_slices_Contains_int : FnH := ⟨96, Tryz.f96, (.tup (.v (.sl (.int .i64))) (.tup (.v (.int .i64)) .unit)), (.tup (.v .bool) .unit), [], [], [], [], [], none⟩
noncomputable def h_impl_realPath_1_1 : FnH := ⟨151, Tryz.f151, (.tup (.v (.int .i64)) (.tup (.sp (.sl (.sl (.int .i64)))) (.tup (.sp (.int .i64)) .unit))), (.tup (.v .bool) .unit), [], [], [], [], [], none⟩
noncomputable def h_slices_IndexFunc_int_by_realPath_1_1 : FnH := ⟨152, Tryz.f152, (.tup (.v (.sl (.int .i64))) (.tup (.v (.fn 151 (.pair (.sl (.sl (.int .i64))) (.pair (.int .i64) .nil)))) .unit)), (.tup (.v (.int .i64)) .unit), [], [], [(0, ⟨[(0, (.v (.sl (.int .i64)))), (1, (.v (.fn 151 (.pair (.sl (.sl (.int .i64))) (.pair (.int .i64) .nil))))), (7, (.v (.int .i64))), (8, (.v (.int .i64)))], [(.ret, [(4, (.v (.int .i64)))]), (.exit 0, [])], []⟩)], [], [], none⟩
noncomputable def h_slices_ContainsFunc_int_by_realPath_1_1 : FnH := ⟨144, Tryz.f144, (.tup (.v (.sl (.int .i64))) (.tup (.v (.fn 151 (.pair (.sl (.sl (.int .i64))) (.pair (.int .i64) .nil)))) .unit)), (.tup (.v .bool) .unit), [], [(7, 10119)], [], [], [], none⟩
noncomputable def h_impl_realPath_1 : FnH := ⟨150, Tryz.f150, (.tup (.v (.int .i64)) (.tup (.sp (.sl (.sl (.int .i64)))) (.tup (.sp (.sl (.sl (.int .i64)))) (.tup (.sp (.int .i64)) .unit)))), (.tup (.v .bool) .unit), [], [(11, 10118)], [], [], [], none⟩
noncomputable def h_slices_IndexFunc_int_by_realPath_1 : FnH := ⟨152, Tryz.f152, (.tup (.v (.sl (.int .i64))) (.tup (.v (.fn 150 (.pair (.sl (.sl (.int .i64))) (.pair (.sl (.sl (.int .i64))) (.pair (.int .i64) .nil))))) .unit)), (.tup (.v (.int .i64)) .unit), [], [], [(0, ⟨[(0, (.v (.sl (.int .i64)))), (1, (.v (.fn 150 (.pair (.sl (.sl (.int .i64))) (.pair (.sl (.sl (.int .i64))) (.pair (.int .i64) .nil)))))), (7, (.v (.int .i64))), (8, (.v (.int .i64)))], [(.ret, [(4, (.v (.int .i64)))]), (.exit 0, [])], []⟩)], [], [], none⟩
noncomputable def h_slices_DeleteFunc_int_by_realPath_1 : FnH := ⟨149, Tryz.f149, (.tup (.own 206934 (.int .i64) true) (.tup (.v (.fn 150 (.pair (.sl (.sl (.int .i64))) (.pair (.sl (.sl (.int .i64))) (.pair (.int .i64) .nil))))) .unit)), (.tup .any (.tup (.own 206935 (.int .i64) true) .unit)), [206934], [(10, 10116)], [(0, ⟨[(0, (.own 206933 (.int .i64) true)), (1, (.v (.fn 150 (.pair (.sl (.sl (.int .i64))) (.pair (.sl (.sl (.int .i64))) (.pair (.int .i64) .nil)))))), (5, (.v (.int .i64))), (6, (.v (.int .i64)))], [(.exit 0, [(1206933, (.own 206933 (.int .i64) true)), (5, (.v (.int .i64)))])], [0]⟩)], [], [], none⟩
noncomputable def h_impl_realPath_1_1_2 : FnH := ⟨151, Tryz.f151, (.tup (.v (.int .i64)) (.tup (.sp (.hsl (.sl (.int .i64)))) (.tup (.sp (.int .i64)) .unit))), (.tup (.v .bool) .unit), [], [], [], [], [], none⟩
noncomputable def h_slices_IndexFunc_int_by_realPath_1_1_2 : FnH := ⟨152, Tryz.f152, (.tup (.v (.sl (.int .i64))) (.tup (.v (.fn 151 (.pair (.hsl (.sl (.int .i64))) (.pair (.int .i64) .nil)))) .unit)), (.tup (.v (.int .i64)) .unit), [], [(16, 10128)], [(0, ⟨[(0, (.v (.sl (.int .i64)))), (1, (.v (.fn 151 (.pair (.hsl (.sl (.int .i64))) (.pair (.int .i64) .nil))))), (7, (.v (.int .i64))), (8, (.v (.int .i64)))], [(.ret, [(4, (.v (.int .i64)))]), (.exit 0, [])], []⟩)], [], [], none⟩
noncomputable def h_slices_ContainsFunc_int_by_realPath_1_1_2 : FnH := ⟨144, Tryz.f144, (.tup (.v (.sl (.int .i64))) (.tup (.v (.fn 151 (.pair (.hsl (.sl (.int .i64))) (.pair (.int .i64) .nil)))) .unit)), (.tup (.v .bool) .unit), [], [(7, 10127)], [], [], [], none⟩
noncomputable def h_impl_realPath_1_2 : FnH := ⟨150, Tryz.f150, (.tup (.v (.int .i64)) (.tup (.sp (.sl (.sl (.int .i64)))) (.tup (.sp (.hsl (.sl (.int .i64)))) (.tup (.sp (.int .i64)) .unit)))), (.tup (.v .bool) .unit), [], [(11, 10126)], [], [], [], none⟩
noncomputable def h_slices_IndexFunc_int_by_realPath_1_2 : FnH := ⟨152, Tryz.f152, (.tup (.v (.sl (.int .i64))) (.tup (.v (.fn 150 (.pair (.sl (.sl (.int .i64))) (.pair (.hsl (.sl (.int .i64))) (.pair (.int .i64) .nil))))) .unit)), (.tup (.v (.int .i64)) .unit), [], [(16, 10125)], [(0, ⟨[(0, (.v (.sl (.int .i64)))), (1, (.v (.fn 150 (.pair (.sl (.sl (.int .i64))) (.pair (.hsl (.sl (.int .i64))) (.pair (.int .i64) .nil)))))), (7, (.v (.int .i64))), (8, (.v (.int .i64)))], [(.ret, [(4, (.v (.int .i64)))]), (.exit 0, [])], []⟩)], [], [], none⟩
noncomputable def h_slices_DeleteFunc_int_by_realPath_1_2 : FnH := ⟨149, Tryz.f149, (.tup (.own 206939 (.int .i64) true) (.tup (.v (.fn 150 (.pair (.sl (.sl (.int .i64))) (.pair (.hsl (.sl (.int .i64))) (.pair (.int .i64) .nil))))) .unit)), (.tup .any (.tup (.own 206940 (.int .i64) true) .unit)), [206939], [(10, 10124), (28, 10125)], [(0, ⟨[(0, (.own 206938 (.int .i64) true)), (1, (.v (.fn 150 (.pair (.sl (.sl (.int .i64))) (.pair (.hsl (.sl (.int .i64))) (.pair (.int .i64) .nil)))))), (5, (.v (.int .i64))), (6, (.v (.int .i64)))], [(.exit 0, [(1206938, (.own 206938 (.int .i64) true)), (5, (.v (.int .i64)))])], [0]⟩)], [], [], none⟩
noncomputable def h_impl_realPath_2 : FnH := ⟨153, Tryz.f153, (.tup (.v (.int .i64)) (.tup (.sp (.sl (.sl (.int .i64)))) (.tup (.sp (.sl (.int .i64))) (.tup (.sp (.int .i64)) .unit)))), (.tup (.v .bool) .unit), [], [], [], [], [], none⟩
noncomputable def h_slices_IndexFunc_int_by_realPath_2 : FnH := ⟨152, Tryz.f152, (.tup (.v (.sl (.int .i64))) (.tup (.v (.fn 153 (.pair (.sl (.sl (.int .i64))) (.pair (.sl (.int .i64)) (.pair (.int .i64) .nil))))) .unit)), (.tup (.v (.int .i64)) .unit), [], [], [(0, ⟨[(0, (.v (.sl (.int .i64)))), (1, (.v (.fn 153 (.pair (.sl (.sl (.int .i64))) (.pair (.sl (.int .i64)) (.pair (.int .i64) .nil)))))), (7, (.v (.int .i64))), (8, (.v (.int .i64)))], [(.ret, [(4, (.v (.int .i64)))]), (.exit 0, [])], []⟩)], [], [], none⟩
noncomputable def h_impl_realPath : FnH := ⟨77, Tryz.f77, (.tup (.v tyProgram) (.tup (.v tySight) (.tup (.v (.sl (.int .i64))) .unit))), (.tup (.own 206944 (.int .i64) true) .unit), [], [(39, 10123), (58, 10129)], [(0, ⟨[(7, (.box 206936 (.own 206937 (.sl (.int .i64)) true))), (8, (.sp (.sl (.sl (.int .i64))))), (9, (.v (.int .i64))), (10, (.sp (.int .i64)))], [(.exit 0, [(2206936, (.box 206936 (.own 206937 (.sl (.int .i64)) true)))])], [7, 8, 9]⟩), (2, ⟨[(7, (.sp (.sl (.sl (.int .i64))))), (8, (.sp (.sl (.sl (.int .i64))))), (9, (.v (.int .i64))), (11, (.box 206941 (.own 206942 (.int .i64) true))), (12, (.sp (.int .i64)))], [(.exit 2, [(2206941, (.box 206941 (.own 206943 (.int .i64) true)))])], [11]⟩)], [], [], none⟩
noncomputable def h_impl_RealPath : FnH := ⟨30, Tryz.f30, (.tup (.v tyProgram) (.tup (.v tySight) (.tup (.v (.sl (.int .i64))) .unit))), (.tup (.own 206945 (.int .i64) true) (.tup (.v .bool) .unit)), [], [], [], [], [], none⟩
noncomputable def h_laws_eqIntS : FnH := ⟨31, Tryz.f31, (.tup (.v (.sl (.int .i64))) (.tup (.v (.sl (.int .i64))) .unit)), (.tup (.v .bool) .unit), [], [], [(0, ⟨[(0, (.v (.sl (.int .i64)))), (1, (.v (.sl (.int .i64)))), (5, (.v (.int .i64)))], [(.ret, [(4, (.v .bool))]), (.exit 0, [])], []⟩)], [], [], none⟩
noncomputable def h_laws_eqNode : FnH := ⟨92, Tryz.f92, (.tup (.v tyNode) (.tup (.v tyNode) .unit)), (.tup (.v .bool) .unit), [], [], [], [], [], none⟩
noncomputable def h_laws_eqNodeS : FnH := ⟨43, Tryz.f43, (.tup (.v (.sl tyNode)) (.tup (.v (.sl tyNode)) .unit)), (.tup (.v .bool) .unit), [], [], [(0, ⟨[(0, (.v (.sl tyNode))), (1, (.v (.sl tyNode))), (5, (.v (.int .i64)))], [(.ret, [(4, (.v .bool))]), (.exit 0, [])], []⟩)], [], [], none⟩
noncomputable def h_laws_eqChange : FnH := ⟨291, Tryz.f291, (.tup (.v tyChange) (.tup (.v tyChange) .unit)), (.tup (.v .bool) .unit), [], [], [], [], [], none⟩
noncomputable def h_laws_eqChangeS : FnH := ⟨225, Tryz.f225, (.tup (.v (.sl tyChange)) (.tup (.v (.sl tyChange)) .unit)), (.tup (.v .bool) .unit), [], [], [(0, ⟨[(0, (.v (.sl tyChange))), (1, (.v (.sl tyChange))), (5, (.v (.int .i64)))], [(.ret, [(4, (.v .bool))]), (.exit 0, [])], []⟩)], [], [], none⟩
noncomputable def h_laws_eqCommand : FnH := ⟨154, Tryz.f154, (.tup (.v tyCommand) (.tup (.v tyCommand) .unit)), (.tup (.v .bool) .unit), [], [], [], [], [], none⟩
noncomputable def h_laws_eqCommandS : FnH := ⟨78, Tryz.f78, (.tup (.v (.sl tyCommand)) (.tup (.v (.sl tyCommand)) .unit)), (.tup (.v .bool) .unit), [], [], [(0, ⟨[(0, (.v (.sl tyCommand))), (1, (.v (.sl tyCommand))), (5, (.v (.int .i64)))], [(.ret, [(4, (.v .bool))]), (.exit 0, [])], []⟩)], [], [], none⟩
noncomputable def h_laws_eqProgram : FnH := ⟨32, Tryz.f32, (.tup (.v tyProgram) (.tup (.v tyProgram) .unit)), (.tup (.v .bool) .unit), [], [], [], [], [], none⟩
noncomputable def h_laws_eqSight : FnH := ⟨17, Tryz.f17, (.tup (.v tySight) (.tup (.v tySight) .unit)), (.tup (.v .bool) .unit), [], [], [], [], [], none⟩
noncomputable def h_laws_markNodeS : FnH := ⟨44, Tryz.f44, (.tup (.own 206947 tyNode true) (.tup (.v (.int .i64)) .unit)), (.tup (.own 206947 tyNode true) (.tup (.v (.int .i64)) .unit)), [206947], [], [(0, ⟨[(0, (.own 206946 tyNode true)), (1, (.v (.int .i64))), (5, (.v (.int .i64)))], [(.exit 0, [(1206946, (.own 206946 tyNode true)), (1, (.v (.int .i64)))])], []⟩)], [], [], none⟩
noncomputable def h_laws_markChangeS : FnH := ⟨155, Tryz.f155, (.tup (.own 206952 tyChange true) (.tup (.v (.int .i64)) .unit)), (.tup (.own 206952 tyChange true) (.tup (.v (.int .i64)) .unit)), [206952], [], [(0, ⟨[(0, (.own 206951 tyChange true)), (1, (.v (.int .i64))), (5, (.v (.int .i64)))], [(.exit 0, [(1206951, (.own 206951 tyChange true)), (1, (.v (.int .i64)))])], []⟩)], [], [], none⟩
noncomputable def h_laws_markCommandS : FnH := ⟨79, Tryz.f79, (.tup (.own 206950 tyCommand true) (.tup (.v (.int .i64)) .unit)), (.tup (.own 206950 tyCommand true) (.tup (.v (.int .i64)) .unit)), [206950], [], [(0, ⟨[(0, (.own 206949 tyCommand true)), (1, (.v (.int .i64))), (5, (.v (.int .i64)))], [(.exit 0, [(1206949, (.own 206949 tyCommand true)), (1, (.v (.int .i64)))])], []⟩)], [], [], none⟩
noncomputable def h_laws_markProgram : FnH := ⟨33, Tryz.f33, (.tup (.pair (.v (.int .i64)) (.pair (.v (.int .i64)) (.pair (.own 206948 tyNode true) (.own 206953 tyCommand true)))) (.tup (.v (.int .i64)) .unit)), (.tup (.own 206948 tyNode true) (.tup (.own 206953 tyCommand true) (.tup (.v (.int .i64)) .unit))), [206948, 206953], [], [], [], [], none⟩
noncomputable def h_laws_markIntS : FnH := ⟨34, Tryz.f34, (.tup (.own 206955 (.int .i64) true) (.tup (.v (.int .i64)) .unit)), (.tup (.own 206955 (.int .i64) true) (.tup (.v (.int .i64)) .unit)), [206955], [], [(0, ⟨[(0, (.own 206954 (.int .i64) true)), (1, (.v (.int .i64))), (5, (.v (.int .i64)))], [(.exit 0, [(1206954, (.own 206954 (.int .i64) true)), (1, (.v (.int .i64)))])], []⟩)], [], [], none⟩
noncomputable def h_laws_markSight : FnH := ⟨22, Tryz.f22, (.tup (.one (.own 206956 (.int .i64) true)) (.tup (.v (.int .i64)) .unit)), (.tup (.own 206956 (.int .i64) true) (.tup (.v (.int .i64)) .unit)), [206956], [], [], [], [], none⟩
noncomputable def h_laws_heldIntS : FnH := ⟨35, Tryz.f35, (.tup (.v (.sl (.int .i64))) (.tup (.v (.int .i64)) .unit)), (.tup (.v (.int .i64)) .unit), [], [], [(0, ⟨[(0, (.v (.sl (.int .i64)))), (1, (.v (.int .i64))), (5, (.v (.int .i64)))], [(.ret, [(4, (.v (.int .i64)))]), (.exit 0, [(1, (.v (.int .i64)))])], []⟩)], [], [], none⟩
noncomputable def h_laws_FnExactRealPath : FnH := ⟨4, Tryz.f4, (.tup (.v tyProgram) (.tup (.v tySight) (.tup (.v (.sl (.int .i64))) .unit))), (.tup (.v .bool) .unit), [], [], [], [], [], none⟩
def extsL : List (Nat × ExtF) := []
def tysL : List (Nat × Ty) := [(2, (.int .i64)), (3, (.int .i64)), (4, .bool), (22, (.sl tyNode)), (23, (.sl tyCommand)), (25, tyProgram), (32, (.sl (.int .i64))), (34, tySight), (37, (.sl tyNode)), (38, (.sl tyCommand)), (40, tyProgram), (54, tySight), (106, (.sl (.sl (.int .i64)))), (121, (.int .u64)), (123, tyNode), (125, tyNode), (139, (.sl (.int .u64))), (141, (.sl .bool)), (164, (.sl tyChange)), (166, tyCommand), (171, (.sl tyChange)), (173, tyCommand), (233, tyChange), (234, (.int .u64)), (281, tyChange)]
def nfsL : List (Nat × Nat) := [(25, 4), (34, 1), (40, 4), (54, 1), (123, 2), (125, 2), (166, 2), (173, 2), (233, 2), (281, 2)]
def cellsL : List Nat := []
def mtysL : List (Nat × (Nat × Nat)) := []
noncomputable def keysL : List (Nat × FnH) := [(38, h_laws_szNodeS), (287, h_laws_szChange), (211, h_laws_szChangeS), (135, h_laws_szCommand), (69, h_laws_szCommandS), (24, h_laws_szProgram), (70, h_laws_szIntS), (25, h_laws_szSight), (89, h_laws_toNode), (40, h_laws_toNodeS), (288, h_laws_toChange), (217, h_laws_toChangeS), (141, h_laws_toCommand), (75, h_laws_toCommandS), (27, h_laws_toProgram), (29, h_laws_toIntS), (28, h_laws_toSight), (116, h_spec_l1In), (272, h_spec_l1Wide), (273, h_spec_l2Need), (307, h_spec_l1Cut), (330, h_spec_GoodWord), (274, h_spec_l2N), (203, h_spec_l2Kind), (123, h_spec_l7Asks), (269, h_spec_l7Command), (200, h_spec_GoodProgram), (121, h_spec_l7Small), (159, h_spec_l7Many), (136, h_spec_GoodSight), (188, h_spec_l15Many), (212, h_spec_l1All), (137, h_spec_l19Classes), (71, h_spec_l19Path), (176, h_spec_l7Of), (309, h_spec_l2From), (369, h_spec_l1Both), (343, h_spec_DivWord), (344, h_spec_l1Shift), (345, h_spec_l2Bool), (346, h_spec_l1Signed), (308, h_spec_l2Do), (240, h_spec_l2Value), (175, h_spec_l7Holds), (99, h_spec_l8Those), (214, h_spec_l7Enabled), (216, h_spec_l7Do), (215, h_spec_l7No), (213, h_spec_l1Put), (140, h_spec_l8Next), (138, h_spec_l8After), (72, h_spec_l19Along), (73, h_spec_l19Fails), (98, h_spec_l1Has), (139, h_spec_l7Meet), (74, h_spec_l19Real), (26, h_spec_RealPath), (275, h_impl_isWide), (276, h_impl_isVars), (334, h_impl_operandsOf), (183, h_impl_mask), (364, h_impl_GoodWord), (335, h_impl_isLeafRight), (336, h_impl_GoodTerm_1), (152, h_slices_IndexFunc_int_by_GoodTerm_1), (144, h_slices_ContainsFunc_int_by_GoodTerm_1), (284, h_impl_GoodTerm), (285, h_impl_kindOf), (208, h_impl_isTermOf), (129, h_impl_Program_isCondition), (279, h_impl_Program_isCommand), (278, h_impl_GoodProgram_1), (331, h_slices_IndexFunc_Command_by_GoodProgram_1), (277, h_slices_ContainsFunc_Command_by_GoodProgram_1), (204, h_impl_GoodProgram), (125, h_impl_isSmall), (131, h_impl_Program_states), (218, h_impl_isSight), (142, h_impl_GoodSight), (219, h_slices_Max_int), (143, h_impl_Sight_classes), (145, h_impl_isClassPath_1), (10085, h_slices_IndexFunc_int_by_isClassPath_1), (10084, h_slices_ContainsFunc_int_by_isClassPath_1), (76, h_impl_isClassPath), (106, h_impl_Program_stateOf), (347, h_impl_areWords), (348, h_bits_Div64), (311, h_impl_DivWord), (312, h_impl_shift), (313, h_impl_truth), (314, h_impl_signed), (243, h_impl_apply), (182, h_impl_valueOf), (105, h_impl_Program_holds), (337, h_slices_Clone_uint64), (290, h_impl_Program_after), (289, h_impl_Program_stateNo), (282, h_slices_Sort_int), (283, h_slices_Compact_int), (222, h_impl_Program_nextOf), (147, h_impl_Program_graph), (172, h_impl_Program_where), (220, h_impl_marked), (221, h_impl_statesAlong_1), (10109, h_slices_IndexFunc_int_by_statesAlong_1), (149, h_slices_DeleteFunc_int_by_statesAlong_1), (158, h_slices_Clone_int), (146, h_impl_statesAlong), (224, h_impl_failsAt_1), (223, h_slices_IndexFunc_int_by_failsAt_1), (148, h_impl_failsAt), (173, h_slices_Index_int), (96, h_slices_Contains_int), (151, h_impl_realPath_1_1), (10119, h_slices_IndexFunc_int_by_realPath_1_1), (10118, h_slices_ContainsFunc_int_by_realPath_1_1), (150, h_impl_realPath_1), (10116, h_slices_IndexFunc_int_by_realPath_1), (10115, h_slices_DeleteFunc_int_by_realPath_1), (10128, h_impl_realPath_1_1_2), (10127, h_slices_IndexFunc_int_by_realPath_1_1_2), (10126, h_slices_ContainsFunc_int_by_realPath_1_1_2), (10125, h_impl_realPath_1_2), (10124, h_slices_IndexFunc_int_by_realPath_1_2), (10123, h_slices_DeleteFunc_int_by_realPath_1_2), (153, h_impl_realPath_2), (10129, h_slices_IndexFunc_int_by_realPath_2), (77, h_impl_realPath), (30, h_impl_RealPath), (31, h_laws_eqIntS), (92, h_laws_eqNode), (43, h_laws_eqNodeS), (291, h_laws_eqChange), (225, h_laws_eqChangeS), (154, h_laws_eqCommand), (78, h_laws_eqCommandS), (32, h_laws_eqProgram), (17, h_laws_eqSight), (44, h_laws_markNodeS), (155, h_laws_markChangeS), (79, h_laws_markCommandS), (33, h_laws_markProgram), (34, h_laws_markIntS), (22, h_laws_markSight), (35, h_laws_heldIntS), (4, h_laws_FnExactRealPath)]
noncomputable def H : Hints := { extF := fun f => lookupN extsL f, ty := fun T => lookupN tysL T, nf := fun T => match lookupN nfsL T with | some n => n | none => 0, cell := fun T => hasN cellsL T, key := fun k => lookupN keysL k, mty := fun T => lookupN mtysL T }
noncomputable def laws_szNodeS (a : Bool × List DNode) (left_ : Int) : Option Int := (inf H).call 38 (a, left_)
noncomputable def laws_szChange (a : DChange) (left_ : Int) : Option Int := (inf H).call 287 (a, left_)
noncomputable def laws_szChangeS (a : Bool × List DChange) (left_ : Int) : Option Int := (inf H).call 211 (a, left_)
theorem key_laws_szChangeS : H.key 211 = some h_laws_szChangeS := by kernel_rfl
noncomputable def laws_szChangeS_L0 (a : Bool × List DChange) (left_ : Int) (i : Int) : Option (Int ⊕ Int) := (inf H).loop 211 0 (loopCode Tryz.f211 0) (a, (left_, i))
noncomputable def laws_szCommand (a : DCommand) (left_ : Int) : Option Int := (inf H).call 135 (a, left_)
noncomputable def laws_szCommandS (a : Bool × List DCommand) (left_ : Int) : Option Int := (inf H).call 69 (a, left_)
theorem key_laws_szCommandS : H.key 69 = some h_laws_szCommandS := by kernel_rfl
noncomputable def laws_szCommandS_L0 (a : Bool × List DCommand) (left_ : Int) (i : Int) : Option (Int ⊕ Int) := (inf H).loop 69 0 (loopCode Tryz.f69 0) (a, (left_, i))
noncomputable def laws_szProgram (a : DProgram) (left_ : Int) : Option Int := (inf H).call 24 (a, left_)
noncomputable def laws_szIntS (a : Bool × List Int) (left_ : Int) : Option Int := (inf H).call 70 (a, left_)
noncomputable def laws_szSight (a : DSight) (left_ : Int) : Option Int := (inf H).call 25 (a, left_)
noncomputable def laws_toNode (a : DNode) : Option DNode := (inf H).call 89 a
noncomputable def laws_toNodeS (a : Bool × List DNode) : Option (Bool × List DNode) := (inf H).call 40 a
theorem key_laws_toNodeS : H.key 40 = some h_laws_toNodeS := by kernel_rfl
noncomputable def laws_toNodeS_L0 (a : Bool × List DNode) (out : Bool × List DNode) (i : Int) : Option (Bool × List DNode) := (inf H).loop 40 0 (loopCode Tryz.f40 0) (a, (out, i))
noncomputable def laws_toChange (a : DChange) : Option DChange := (inf H).call 288 a
noncomputable def laws_toChangeS (a : Bool × List DChange) : Option (Bool × List DChange) := (inf H).call 217 a
theorem key_laws_toChangeS : H.key 217 = some h_laws_toChangeS := by kernel_rfl
noncomputable def laws_toChangeS_L0 (a : Bool × List DChange) (out : Bool × List DChange) (i : Int) : Option (Bool × List DChange) := (inf H).loop 217 0 (loopCode Tryz.f217 0) (a, (out, i))
noncomputable def laws_toCommand (a : DCommand) : Option DCommand := (inf H).call 141 a
noncomputable def laws_toCommandS (a : Bool × List DCommand) : Option (Bool × List DCommand) := (inf H).call 75 a
theorem key_laws_toCommandS : H.key 75 = some h_laws_toCommandS := by kernel_rfl
noncomputable def laws_toCommandS_L0 (a : Bool × List DCommand) (out : Bool × List DCommand) (i : Int) : Option (Bool × List DCommand) := (inf H).loop 75 0 (loopCode Tryz.f75 0) (a, (out, i))
noncomputable def laws_toProgram (a : DProgram) : Option DProgram := (inf H).call 27 a
noncomputable def laws_toIntS (a : Bool × List Int) : Option (Bool × List Int) := (inf H).call 29 a
theorem key_laws_toIntS : H.key 29 = some h_laws_toIntS := by kernel_rfl
noncomputable def laws_toIntS_L0 (a : Bool × List Int) (out : Bool × List Int) (i : Int) : Option (Bool × List Int) := (inf H).loop 29 0 (loopCode Tryz.f29 0) (a, (out, i))
noncomputable def laws_toSight (a : DSight) : Option (Bool × List Int) := (inf H).call 28 a
noncomputable def spec_l1In (n : Int) (lo : Int) (hi : Int) : Option Bool := (inf H).call 116 (n, (lo, hi))
noncomputable def spec_l1Wide (wide : Int) : Option Bool := (inf H).call 272 wide
noncomputable def spec_l2Need (op : Int) : Option DEdge := (inf H).call 273 op
noncomputable def spec_l1Cut (wide : Int) (a : Int) : Option Int := (inf H).call 307 (wide, a)
theorem key_spec_l1Cut : H.key 307 = some h_spec_l1Cut := by kernel_rfl
noncomputable def spec_l1Cut_L0 (wide : Int) (a : Int) (out : Int) (k_ : Int) : Option Int := (inf H).loop 307 0 (loopCode Tryz.f307 0) (wide, (a, (out, k_)))
noncomputable def spec_GoodWord (wide : Int) (a : Int) : Option Bool := (inf H).call 330 (wide, a)
noncomputable def spec_l2N (wide : Int) (vars : Int) (n : DNode) : Option Bool := (inf H).call 274 (wide, (vars, n))
noncomputable def spec_l2Kind (wide : Int) (vars : Int) (t : Bool × List DNode) : Option Int := (inf H).call 203 (wide, (vars, t))
theorem key_spec_l2Kind : H.key 203 = some h_spec_l2Kind := by kernel_rfl
noncomputable def spec_l2Kind_L0 (wide : Int) (vars : Int) (pile : Bool × List Int) (t27 : Bool × List DNode) (t28 : Int) (t29 : Int) : Option (Int ⊕ (Bool × List Int)) := (inf H).loop 203 0 (loopCode Tryz.f203 0) (wide, (vars, (pile, (t27, (t28, t29)))))
noncomputable def spec_l2Kind_L2 (wide : Int) (vars : Int) (pile : Bool × List Int) (many : Int) (part : Int) (own : Int) (t27 : Bool × List DNode) (t28 : Int) (t29 : Int) : Option (Int ⊕ (Bool × List Int)) := (inf H).loop 203 2 (loopCode Tryz.f203 2) (wide, (vars, (pile, (many, (part, (own, (t27, (t28, t29))))))))
noncomputable def spec_l7Asks (p : DProgram) (t : Bool × List DNode) : Option Bool := (inf H).call 123 (p, t)
noncomputable def spec_l7Command (p : DProgram) (c : DCommand) : Option Bool := (inf H).call 269 (p, c)
theorem key_spec_l7Command : H.key 269 = some h_spec_l7Command := by kernel_rfl
noncomputable def spec_l7Command_L0 (p : DProgram) (c : DCommand) (t21 : Bool × List DChange) (t22 : Int) (t23 : Int) : Option (Bool ⊕ Unit) := (inf H).loop 269 0 (loopCode Tryz.f269 0) (p, (c, (t21, (t22, t23))))
noncomputable def spec_GoodProgram (p : DProgram) : Option Bool := (inf H).call 200 p
theorem key_spec_GoodProgram : H.key 200 = some h_spec_GoodProgram := by kernel_rfl
noncomputable def spec_GoodProgram_L0 (p : DProgram) (t18 : Bool × List DCommand) (t19 : Int) (t20 : Int) : Option (Bool ⊕ Unit) := (inf H).loop 200 0 (loopCode Tryz.f200 0) (p, (t18, (t19, t20)))
noncomputable def spec_l7Small (p : DProgram) : Option Bool := (inf H).call 121 p
noncomputable def spec_l7Many (p : DProgram) : Option Int := (inf H).call 159 p
noncomputable def spec_GoodSight (p : DProgram) (v : DSight) : Option Bool := (inf H).call 136 (p, v)
theorem key_spec_GoodSight : H.key 136 = some h_spec_GoodSight := by kernel_rfl
noncomputable def spec_GoodSight_L0 (many : Int) (t20 : Bool × List Int) (t21 : Int) (t22 : Int) : Option (Bool ⊕ Unit) := (inf H).loop 136 0 (loopCode Tryz.f136 0) (many, (t20, (t21, t22)))
noncomputable def spec_l15Many (v : DSight) : Option Int := (inf H).call 188 v
theorem key_spec_l15Many : H.key 188 = some h_spec_l15Many := by kernel_rfl
noncomputable def spec_l15Many_L0 (many : Int) (t7 : Bool × List Int) (t8 : Int) (t9 : Int) : Option Int := (inf H).loop 188 0 (loopCode Tryz.f188 0) (many, (t7, (t8, t9)))
noncomputable def spec_l1All (l : Bool × List Int) (lo : Int) (hi : Int) : Option Bool := (inf H).call 212 (l, (lo, hi))
theorem key_spec_l1All : H.key 212 = some h_spec_l1All := by kernel_rfl
noncomputable def spec_l1All_L0 (lo : Int) (hi : Int) (t9 : Bool × List Int) (t10 : Int) (t11 : Int) : Option (Bool ⊕ Unit) := (inf H).loop 212 0 (loopCode Tryz.f212 0) (lo, (hi, (t9, (t10, t11))))
noncomputable def spec_l19Classes (v : DSight) (l : Bool × List Int) : Option Bool := (inf H).call 137 (v, l)
noncomputable def spec_l19Path (p : DProgram) (v : DSight) (path : Bool × List Int) : Option Bool := (inf H).call 71 (p, (v, path))
noncomputable def spec_l7Of (p : DProgram) (no : Int) : Option (Bool × List Int) := (inf H).call 176 (p, no)
theorem key_spec_l7Of : H.key 176 = some h_spec_l7Of := by kernel_rfl
noncomputable def spec_l7Of_L0 (no : Int) (p : DProgram) (out : Bool × List Int) (v : Int) : Option (Bool × List Int) := (inf H).loop 176 0 (loopCode Tryz.f176 0) (no, (p, (out, v)))
noncomputable def spec_l2From (t : Bool × List DNode) (k_ : Int) : Option Int := (inf H).call 309 (t, k_)
theorem key_spec_l2From : H.key 309 = some h_spec_l2From := by kernel_rfl
noncomputable def spec_l2From_L0 (t : Bool × List DNode) (many : Int) (from_ : Int) : Option Int := (inf H).loop 309 0 (loopCode Tryz.f309 0) (t, (many, from_))
noncomputable def spec_l1Both (wide : Int) (a : Int) (b : Int) : Option Bool := (inf H).call 369 (wide, (a, b))
noncomputable def spec_DivWord (wide : Int) (a : Int) (b : Int) : Option (Int × Int × Bool) := (inf H).call 343 (wide, (a, b))
noncomputable def spec_l1Shift (wide : Int) (a : Int) (by_ : Int) (left_ : Bool) : Option Int := (inf H).call 344 (wide, (a, (by_, left_)))
theorem key_spec_l1Shift : H.key 344 = some h_spec_l1Shift := by kernel_rfl
noncomputable def spec_l1Shift_L0 (wide : Int) (a : Int) (by_ : Int) (left_ : Bool) : Option Int := (inf H).loop 344 0 (loopCode Tryz.f344 0) (wide, (a, (by_, left_)))
noncomputable def spec_l2Bool (is : Bool) : Option Int := (inf H).call 345 is
noncomputable def spec_l1Signed (wide : Int) (a : Int) : Option Int := (inf H).call 346 (wide, a)
noncomputable def spec_l2Do (wide : Int) (op : Int) (a : Int) (b : Int) : Option Int := (inf H).call 308 (wide, (op, (a, b)))
noncomputable def spec_l2Value (wide : Int) (t : Bool × List DNode) (k_ : Int) (state : Bool × List Int) : Option Int := (inf H).call 240 (wide, (t, (k_, state)))
noncomputable def spec_l7Holds (p : DProgram) (t : Bool × List DNode) (s : Bool × List Int) : Option Bool := (inf H).call 175 (p, (t, s))
noncomputable def spec_l8Those (p : DProgram) (t : Bool × List DNode) : Option (Bool × List Int) := (inf H).call 99 (p, t)
theorem key_spec_l8Those : H.key 99 = some h_spec_l8Those := by kernel_rfl
noncomputable def spec_l8Those_L0 (t : Bool × List DNode) (p : DProgram) (out : Bool × List Int) (no : Int) : Option (Bool × List Int) := (inf H).loop 99 0 (loopCode Tryz.f99 0) (t, (p, (out, no)))
noncomputable def spec_l7Enabled (p : DProgram) (s : Bool × List Int) : Option (Bool × List Int) := (inf H).call 214 (p, s)
theorem key_spec_l7Enabled : H.key 214 = some h_spec_l7Enabled := by kernel_rfl
noncomputable def spec_l7Enabled_L0 (s : Bool × List Int) (p : DProgram) (out : Bool × List Int) (t9 : Bool × List DCommand) (t10 : Int) (t11 : Int) : Option (Bool × List Int) := (inf H).loop 214 0 (loopCode Tryz.f214 0) (s, (p, (out, (t9, (t10, t11)))))
noncomputable def spec_l7Do (p : DProgram) (s : Bool × List Int) (k_ : Int) : Option (Bool × List Int) := (inf H).call 216 (p, (s, k_))
theorem key_spec_l7Do : H.key 216 = some h_spec_l7Do := by kernel_rfl
noncomputable def spec_l7Do_L0 (s : Bool × List Int) (p : DProgram) (out : Bool × List Int) (t18 : Bool × List DChange) (t19 : Int) (t20 : Int) : Option (Bool × List Int) := (inf H).loop 216 0 (loopCode Tryz.f216 0) (s, (p, (out, (t18, (t19, t20)))))
noncomputable def spec_l7No (p : DProgram) (s : Bool × List Int) : Option Int := (inf H).call 215 (p, s)
theorem key_spec_l7No : H.key 215 = some h_spec_l7No := by kernel_rfl
noncomputable def spec_l7No_L0 (s : Bool × List Int) (p : DProgram) (n : Int) (v : Int) : Option Int := (inf H).loop 215 0 (loopCode Tryz.f215 0) (s, (p, (n, v)))
noncomputable def spec_l1Put (l : Bool × List Int) (n : Int) : Option (Bool × List Int) := (inf H).call 213 (l, n)
theorem key_spec_l1Put : H.key 213 = some h_spec_l1Put := by kernel_rfl
noncomputable def spec_l1Put_L0 (l : Bool × List Int) (n : Int) (k_ : Int) : Option Int := (inf H).loop 213 0 (loopCode Tryz.f213 0) (l, (n, k_))
noncomputable def spec_l8Next (p : DProgram) (no : Int) : Option (Bool × List Int) := (inf H).call 140 (p, no)
theorem key_spec_l8Next : H.key 140 = some h_spec_l8Next := by kernel_rfl
noncomputable def spec_l8Next_L0 (no : Int) (p : DProgram) (s : Bool × List Int) (out : Bool × List Int) (t14 : Bool × List Int) (t15 : Int) (t16 : Int) : Option (Bool × List Int) := (inf H).loop 140 0 (loopCode Tryz.f140 0) (no, (p, (s, (out, (t14, (t15, t16))))))
noncomputable def spec_l8After (p : DProgram) (some_ : Bool × List Int) : Option (Bool × List Int) := (inf H).call 138 (p, some_)
theorem key_spec_l8After : H.key 138 = some h_spec_l8After := by kernel_rfl
noncomputable def spec_l8After_L0 (p : DProgram) (out : Bool × List Int) (t10 : Bool × List Int) (t11 : Int) (t12 : Int) : Option (Bool × List Int) := (inf H).loop 138 0 (loopCode Tryz.f138 0) (p, (out, (t10, (t11, t12))))
noncomputable def spec_l8After_L2 (p : DProgram) (out : Bool × List Int) (t10 : Bool × List Int) (t11 : Int) (t12 : Int) (t18 : Bool × List Int) (t19 : Int) (t20 : Int) : Option (Bool × List Int) := (inf H).loop 138 2 (loopCode Tryz.f138 2) (p, (out, (t10, (t11, (t12, (t18, (t19, t20)))))))
noncomputable def spec_l19Along (p : DProgram) (v : DSight) (path : Bool × List Int) : Option (Bool × List (Bool × List Int)) := (inf H).call 72 (p, (v, path))
theorem key_spec_l19Along : H.key 72 = some h_spec_l19Along := by kernel_rfl
noncomputable def spec_l19Along_L0 (p : DProgram) (v : DSight) (out : Bool × List (Bool × List Int)) (some_ : Bool × List Int) (t18 : Bool × List Int) (t19 : Int) (t20 : Int) : Option (Bool × List (Bool × List Int)) := (inf H).loop 72 0 (loopCode Tryz.f72 0) (p, (v, (out, (some_, (t18, (t19, t20))))))
noncomputable def spec_l19Along_L2 (p : DProgram) (v : DSight) (out : Bool × List (Bool × List Int)) (class_ : Int) (in_ : Bool × List Int) (t18 : Bool × List Int) (t19 : Int) (t20 : Int) (t24 : Bool × List Int) (t25 : Int) (t26 : Int) : Option (Bool × List Int) := (inf H).loop 72 2 (loopCode Tryz.f72 2) (p, (v, (out, (class_, (in_, (t18, (t19, (t20, (t24, (t25, t26))))))))))
noncomputable def spec_l19Fails (along : Bool × List (Bool × List Int)) : Option Int := (inf H).call 73 along
theorem key_spec_l19Fails : H.key 73 = some h_spec_l19Fails := by kernel_rfl
noncomputable def spec_l19Fails_L0 (t5 : Bool × List (Bool × List Int)) (t6 : Int) (t7 : Int) : Option (Int ⊕ Unit) := (inf H).loop 73 0 (loopCode Tryz.f73 0) (t5, (t6, t7))
noncomputable def spec_l1Has (l : Bool × List Int) (n : Int) : Option Bool := (inf H).call 98 (l, n)
theorem key_spec_l1Has : H.key 98 = some h_spec_l1Has := by kernel_rfl
noncomputable def spec_l1Has_L0 (n : Int) (t7 : Bool × List Int) (t8 : Int) (t9 : Int) : Option (Bool ⊕ Unit) := (inf H).loop 98 0 (loopCode Tryz.f98 0) (n, (t7, (t8, t9)))
noncomputable def spec_l7Meet (a : Bool × List Int) (b : Bool × List Int) : Option Bool := (inf H).call 139 (a, b)
theorem key_spec_l7Meet : H.key 139 = some h_spec_l7Meet := by kernel_rfl
noncomputable def spec_l7Meet_L0 (b : Bool × List Int) (t7 : Bool × List Int) (t8 : Int) (t9 : Int) : Option (Bool ⊕ Unit) := (inf H).loop 139 0 (loopCode Tryz.f139 0) (b, (t7, (t8, t9)))
noncomputable def spec_l19Real (p : DProgram) (along : Bool × List (Bool × List Int)) : Option (Bool × List Int) := (inf H).call 74 (p, along)
theorem key_spec_l19Real : H.key 74 = some h_spec_l19Real := by kernel_rfl
noncomputable def spec_l19Real_L0 (along : Bool × List (Bool × List Int)) (p : DProgram) (can : Bool × List (Bool × List Int)) (k_ : Int) : Option (Bool × List (Bool × List Int)) := (inf H).loop 74 0 (loopCode Tryz.f74 0) (along, (p, (can, k_)))
noncomputable def spec_l19Real_L2 (along : Bool × List (Bool × List Int)) (p : DProgram) (can : Bool × List (Bool × List Int)) (k_ : Int) (in_ : Bool × List Int) (t27 : Bool × List Int) (t28 : Int) (t29 : Int) : Option (Bool × List Int) := (inf H).loop 74 2 (loopCode Tryz.f74 2) (along, (p, (can, (k_, (in_, (t27, (t28, t29)))))))
noncomputable def spec_l19Real_L4 (p : DProgram) (can : Bool × List (Bool × List Int)) (out : Bool × List Int) (k_ : Int) : Option (Bool × List Int) := (inf H).loop 74 4 (loopCode Tryz.f74 4) (p, (can, (out, k_)))
noncomputable def spec_l19Real_L6 (p : DProgram) (can : Bool × List (Bool × List Int)) (out : Bool × List Int) (k_ : Int) (t69 : Bool × List Int) (t70 : Int) (t71 : Int) : Option (Bool × List Int) := (inf H).loop 74 6 (loopCode Tryz.f74 6) (p, (can, (out, (k_, (t69, (t70, t71))))))
noncomputable def spec_RealPath (p : DProgram) (v : DSight) (path : Bool × List Int) : Option ((Bool × List Int) × Bool) := (inf H).call 26 (p, (v, path))
noncomputable def impl_isWide (n : Int) : Option Bool := (inf H).call 275 n
noncomputable def impl_isVars (n : Int) : Option Bool := (inf H).call 276 n
noncomputable def impl_operandsOf (op : Int) : Option DEdge := (inf H).call 334 op
noncomputable def impl_mask (wide : Int) : Option Int := (inf H).call 183 wide
noncomputable def impl_GoodWord (wide : Int) (a : Int) : Option Bool := (inf H).call 364 (wide, a)
noncomputable def impl_isLeafRight (wide : Int) (vars : Int) (x : DNode) : Option Bool := (inf H).call 335 (wide, (vars, x))
noncomputable def impl_GoodTerm_1 (own : Int) (a1 : Int) : Option Bool := (inf H).call 336 (own, a1)
noncomputable def slices_IndexFunc_int_by_GoodTerm_1 (s : Bool × List Int) (f : Int × Unit) : Option Int := (inf H).call 152 (s, f)
theorem key_slices_IndexFunc_int_by_GoodTerm_1 : H.key 152 = some h_slices_IndexFunc_int_by_GoodTerm_1 := by kernel_rfl
noncomputable def slices_IndexFunc_int_by_GoodTerm_1_L0 (s : Bool × List Int) (f : Int × Unit) (t7 : Int) (t8 : Int) : Option (Int ⊕ Unit) := (inf H).loop 152 0 (loopCode Tryz.f152 0) (s, (f, (t7, t8)))
noncomputable def slices_ContainsFunc_int_by_GoodTerm_1 (s : Bool × List Int) (f : Int × Unit) : Option Bool := (inf H).call 144 (s, f)
noncomputable def impl_GoodTerm (wide : Int) (vars : Int) (t : Bool × List DNode) : Option Bool := (inf H).call 284 (wide, (vars, t))
theorem key_impl_GoodTerm : H.key 284 = some h_impl_GoodTerm := by kernel_rfl
noncomputable def impl_GoodTerm_L0 (wide : Int) (vars : Int) (stack : Bool × List Int) (t33 : Bool × List DNode) (t34 : Int) (t35 : Int) : Option (Bool ⊕ (Bool × List Int)) := (inf H).loop 284 0 (loopCode Tryz.f284 0) (wide, (vars, (stack, (t33, (t34, t35)))))
noncomputable def impl_kindOf (t : Bool × List DNode) : Option Int := (inf H).call 285 t
noncomputable def impl_isTermOf (wide : Int) (vars : Int) (t : Bool × List DNode) (kind : Int) : Option Bool := (inf H).call 208 (wide, (vars, (t, kind)))
noncomputable def impl_Program_isCondition (p : DProgram) (t : Bool × List DNode) : Option Bool := (inf H).call 129 (p, t)
noncomputable def impl_Program_isCommand (p : DProgram) (c : DCommand) : Option Bool := (inf H).call 279 (p, c)
theorem key_impl_Program_isCommand : H.key 279 = some h_impl_Program_isCommand := by kernel_rfl
noncomputable def impl_Program_isCommand_L0 (p : DProgram) (c : DCommand) (t13 : Bool × List DChange) (t14 : Int) (t15 : Int) : Option (Bool ⊕ Unit) := (inf H).loop 279 0 (loopCode Tryz.f279 0) (p, (c, (t13, (t14, t15))))
noncomputable def impl_GoodProgram_1 (c : DCommand) (a1 : DProgram) : Option Bool := (inf H).call 278 (c, a1)
noncomputable def slices_IndexFunc_Command_by_GoodProgram_1 (s : Bool × List DCommand) (f : DProgram × Unit) : Option Int := (inf H).call 331 (s, f)
theorem key_slices_IndexFunc_Command_by_GoodProgram_1 : H.key 331 = some h_slices_IndexFunc_Command_by_GoodProgram_1 := by kernel_rfl
noncomputable def slices_IndexFunc_Command_by_GoodProgram_1_L0 (s : Bool × List DCommand) (f : DProgram × Unit) (t7 : Int) (t8 : Int) : Option (Int ⊕ Unit) := (inf H).loop 331 0 (loopCode Tryz.f331 0) (s, (f, (t7, t8)))
noncomputable def slices_ContainsFunc_Command_by_GoodProgram_1 (s : Bool × List DCommand) (f : DProgram × Unit) : Option Bool := (inf H).call 277 (s, f)
noncomputable def impl_GoodProgram (p : DProgram) : Option Bool := (inf H).call 204 p
noncomputable def impl_isSmall (p : DProgram) : Option Bool := (inf H).call 125 p
noncomputable def impl_Program_states (p : DProgram) : Option Int := (inf H).call 131 p
noncomputable def impl_isSight (v : DSight) (states : Int) : Option Bool := (inf H).call 218 (v, states)
theorem key_impl_isSight : H.key 218 = some h_impl_isSight := by kernel_rfl
noncomputable def impl_isSight_L0 (states : Int) (v : DSight) (classes : Int) (t9 : Bool × List Int) (t10 : Int) (t11 : Int) : Option (Bool ⊕ Unit) := (inf H).loop 218 0 (loopCode Tryz.f218 0) (states, (v, (classes, (t9, (t10, t11)))))
noncomputable def impl_GoodSight (p : DProgram) (v : DSight) : Option Bool := (inf H).call 142 (p, v)
noncomputable def slices_Max_int (x : Bool × List Int) : Option Int := (inf H).call 219 x
theorem key_slices_Max_int : H.key 219 = some h_slices_Max_int := by kernel_rfl
noncomputable def slices_Max_int_L0 (x : Bool × List Int) (m : Int) (i : Int) : Option Int := (inf H).loop 219 0 (loopCode Tryz.f219 0) (x, (m, i))
noncomputable def impl_Sight_classes (v : DSight) : Option Int := (inf H).call 143 v
noncomputable def impl_isClassPath_1 (class_ : Int) (a1 : Int) : Option Bool := (inf H).call 145 (class_, a1)
noncomputable def slices_IndexFunc_int_by_isClassPath_1 (s : Bool × List Int) (f : Int × Unit) : Option Int := (inf H).call 10085 (s, f)
theorem key_slices_IndexFunc_int_by_isClassPath_1 : H.key 10085 = some h_slices_IndexFunc_int_by_isClassPath_1 := by kernel_rfl
noncomputable def slices_IndexFunc_int_by_isClassPath_1_L0 (s : Bool × List Int) (f : Int × Unit) (t7 : Int) (t8 : Int) : Option (Int ⊕ Unit) := (inf H).loop 10085 0 (loopCode Tryz.f152 0) (s, (f, (t7, t8)))
noncomputable def slices_ContainsFunc_int_by_isClassPath_1 (s : Bool × List Int) (f : Int × Unit) : Option Bool := (inf H).call 10084 (s, f)
noncomputable def impl_isClassPath (p : DProgram) (v : DSight) (path : Bool × List Int) (most : Int) : Option Bool := (inf H).call 76 (p, (v, (path, most)))
noncomputable def impl_Program_stateOf (p : DProgram) (no : Int) : Option (Bool × List Int) := (inf H).call 106 (p, no)
theorem key_impl_Program_stateOf : H.key 106 = some h_impl_Program_stateOf := by kernel_rfl
noncomputable def impl_Program_stateOf_L0 (no : Int) (p : DProgram) (out : Bool × List Int) (t9 : Int) (t10 : Int) : Option (Bool × List Int) := (inf H).loop 106 0 (loopCode Tryz.f106 0) (no, (p, (out, (t9, t10))))
noncomputable def impl_areWords (wide : Int) (a : Int) (b : Int) : Option Bool := (inf H).call 347 (wide, (a, b))
noncomputable def bits_Div64 (hi : Int) (lo : Int) (y : Int) : Option (Int × Int) := (inf H).call 348 (hi, (lo, y))
noncomputable def impl_DivWord (wide : Int) (a : Int) (b : Int) : Option (Int × Int × Bool) := (inf H).call 311 (wide, (a, b))
noncomputable def impl_shift (wide : Int) (a : Int) (by_ : Int) (left_ : Bool) : Option Int := (inf H).call 312 (wide, (a, (by_, left_)))
noncomputable def impl_truth (holds : Bool) : Option Int := (inf H).call 313 holds
noncomputable def impl_signed (wide : Int) (a : Int) : Option Int := (inf H).call 314 (wide, a)
noncomputable def impl_apply (wide : Int) (op : Int) (a : Int) (b : Int) : Option Int := (inf H).call 243 (wide, (op, (a, b)))
noncomputable def impl_valueOf (wide : Int) (t : Bool × List DNode) (state : Bool × List Int) : Option Int := (inf H).call 182 (wide, (t, state))
theorem key_impl_valueOf : H.key 182 = some h_impl_valueOf := by kernel_rfl
noncomputable def impl_valueOf_L0 (wide : Int) (state : Bool × List Int) (stack : Bool × List Int) (t12 : Bool × List DNode) (t13 : Int) (t14 : Int) : Option (Bool × List Int) := (inf H).loop 182 0 (loopCode Tryz.f182 0) (wide, (state, (stack, (t12, (t13, t14)))))
noncomputable def impl_Program_holds (p : DProgram) (t : Bool × List DNode) (s : Bool × List Int) : Option Bool := (inf H).call 105 (p, (t, s))
noncomputable def slices_Clone_uint64 (s : Bool × List Int) : Option (Bool × List Int) := (inf H).call 337 s
noncomputable def impl_Program_after (p : DProgram) (c : DCommand) (s : Bool × List Int) : Option (Bool × List Int) := (inf H).call 290 (p, (c, s))
theorem key_impl_Program_after : H.key 290 = some h_impl_Program_after := by kernel_rfl
noncomputable def impl_Program_after_L0 (s : Bool × List Int) (p : DProgram) (out : Bool × List Int) (t13 : Bool × List DChange) (t14 : Int) (t15 : Int) : Option (Bool × List Int) := (inf H).loop 290 0 (loopCode Tryz.f290 0) (s, (p, (out, (t13, (t14, t15)))))
noncomputable def impl_Program_stateNo (p : DProgram) (s : Bool × List Int) : Option Int := (inf H).call 289 (p, s)
theorem key_impl_Program_stateNo : H.key 289 = some h_impl_Program_stateNo := by kernel_rfl
noncomputable def impl_Program_stateNo_L0 (p : DProgram) (no : Int) (t8 : Bool × List Int) (t9 : Int) (t10 : Int) : Option Int := (inf H).loop 289 0 (loopCode Tryz.f289 0) (p, (no, (t8, (t9, t10))))
noncomputable def slices_Sort_int (s : Bool × List Int) : Option (Bool × List Int) := (inf H).call 282 s
noncomputable def slices_Compact_int (s : Bool × List Int) : Option (Bool × List Int) := (inf H).call 283 s
noncomputable def impl_Program_nextOf (p : DProgram) (no : Int) : Option (Bool × List Int) := (inf H).call 222 (p, no)
theorem key_impl_Program_nextOf : H.key 222 = some h_impl_Program_nextOf := by kernel_rfl
noncomputable def impl_Program_nextOf_L0 (no : Int) (p : DProgram) (s : Bool × List Int) (out : Bool × List Int) (t14 : Bool × List DCommand) (t15 : Int) (t16 : Int) : Option (Bool × List Int) := (inf H).loop 222 0 (loopCode Tryz.f222 0) (no, (p, (s, (out, (t14, (t15, t16))))))
noncomputable def impl_Program_graph (p : DProgram) : Option (Bool × List (Bool × List Int)) := (inf H).call 147 p
theorem key_impl_Program_graph : H.key 147 = some h_impl_Program_graph := by kernel_rfl
noncomputable def impl_Program_graph_L0 (p : DProgram) (out : Bool × List (Bool × List Int)) (t7 : Int) (t8 : Int) : Option (Bool × List (Bool × List Int)) := (inf H).loop 147 0 (loopCode Tryz.f147 0) (p, (out, (t7, t8)))
noncomputable def impl_Program_where (p : DProgram) (t : Bool × List DNode) : Option (Bool × List Int) := (inf H).call 172 (p, t)
theorem key_impl_Program_where : H.key 172 = some h_impl_Program_where := by kernel_rfl
noncomputable def impl_Program_where_L0 (t : Bool × List DNode) (p : DProgram) (out : Bool × List Int) (t9 : Int) (t10 : Int) : Option (Bool × List Int) := (inf H).loop 172 0 (loopCode Tryz.f172 0) (t, (p, (out, (t9, t10))))
noncomputable def impl_marked (list : Bool × List Bool) : Option (Bool × List Int) := (inf H).call 220 list
theorem key_impl_marked : H.key 220 = some h_impl_marked := by kernel_rfl
noncomputable def impl_marked_L0 (out : Bool × List Int) (t7 : Bool × List Bool) (t8 : Int) (t9 : Int) : Option (Bool × List Int) := (inf H).loop 220 0 (loopCode Tryz.f220 0) (out, (t7, (t8, t9)))
noncomputable def impl_statesAlong_1 (no : Int) (a1 : DSight) (a2 : Int) : Option Bool := (inf H).call 221 (no, (a1, a2))
noncomputable def slices_IndexFunc_int_by_statesAlong_1 (s : Bool × List Int) (f : DSight × Int × Unit) : Option Int := (inf H).call 10109 (s, f)
theorem key_slices_IndexFunc_int_by_statesAlong_1 : H.key 10109 = some h_slices_IndexFunc_int_by_statesAlong_1 := by kernel_rfl
noncomputable def slices_IndexFunc_int_by_statesAlong_1_L0 (s : Bool × List Int) (f : DSight × Int × Unit) (t7 : Int) (t8 : Int) : Option (Int ⊕ Unit) := (inf H).loop 10109 0 (loopCode Tryz.f152 0) (s, (f, (t7, t8)))
noncomputable def slices_DeleteFunc_int_by_statesAlong_1 (s : Bool × List Int) (del : DSight × Int × Unit) : Option (Bool × List Int) := (inf H).call 149 (s, del)
theorem key_slices_DeleteFunc_int_by_statesAlong_1 : H.key 149 = some h_slices_DeleteFunc_int_by_statesAlong_1 := by kernel_rfl
noncomputable def slices_DeleteFunc_int_by_statesAlong_1_L0 (s : Bool × List Int) (del : DSight × Int × Unit) (i : Int) (j : Int) : Option ((Bool × List Int) × Int) := (inf H).loop 149 0 (loopCode Tryz.f149 0) (s, (del, (i, j)))
noncomputable def slices_Clone_int (s : Bool × List Int) : Option (Bool × List Int) := (inf H).call 158 s
noncomputable def impl_statesAlong (p : DProgram) (v : DSight) (path : Bool × List Int) : Option (Bool × List (Bool × List Int)) := (inf H).call 146 (p, (v, path))
theorem key_impl_statesAlong : H.key 146 = some h_impl_statesAlong := by kernel_rfl
noncomputable def impl_statesAlong_L0 (p : DProgram) (v : DSight) (out : Bool × List (Bool × List Int)) (next : Bool × List (Bool × List Int)) (now : Bool × List Int) (t24 : Bool × List Int) (t25 : Int) (t26 : Int) : Option (Bool × List (Bool × List Int)) := (inf H).loop 146 0 (loopCode Tryz.f146 0) (p, (v, (out, (next, (now, (t24, (t25, t26)))))))
noncomputable def impl_statesAlong_L2 (p : DProgram) (v : DSight) (out : Bool × List (Bool × List Int)) (next : Bool × List (Bool × List Int)) (class_ : Int) (in_ : Bool × List Bool) (t24 : Bool × List Int) (t25 : Int) (t26 : Int) (t36 : Bool × List Int) (t37 : Int) (t38 : Int) : Option (Bool × List Bool) := (inf H).loop 146 2 (loopCode Tryz.f146 2) (p, (v, (out, (next, (class_, (in_, (t24, (t25, (t26, (t36, (t37, t38)))))))))))
noncomputable def impl_statesAlong_L4 (p : DProgram) (v : DSight) (out : Bool × List (Bool × List Int)) (next : Bool × List (Bool × List Int)) (class_ : Int) (in_ : Bool × List Bool) (t24 : Bool × List Int) (t25 : Int) (t26 : Int) (t36 : Bool × List Int) (t37 : Int) (t38 : Int) (t45 : Bool × List Int) (t46 : Int) (t47 : Int) : Option (Bool × List Bool) := (inf H).loop 146 4 (loopCode Tryz.f146 4) (p, (v, (out, (next, (class_, (in_, (t24, (t25, (t26, (t36, (t37, (t38, (t45, (t46, t47))))))))))))))
noncomputable def impl_failsAt_1 (list : Bool × List Int) : Option Bool := (inf H).call 224 list
noncomputable def slices_IndexFunc_int_by_failsAt_1 (s : Bool × List (Bool × List Int)) (f : Unit) : Option Int := (inf H).call 223 (s, f)
theorem key_slices_IndexFunc_int_by_failsAt_1 : H.key 223 = some h_slices_IndexFunc_int_by_failsAt_1 := by kernel_rfl
noncomputable def slices_IndexFunc_int_by_failsAt_1_L0 (s : Bool × List (Bool × List Int)) (f : Unit) (t7 : Int) (t8 : Int) : Option (Int ⊕ Unit) := (inf H).loop 223 0 (loopCode Tryz.f223 0) (s, (f, (t7, t8)))
noncomputable def impl_failsAt (along : Bool × List (Bool × List Int)) : Option Int := (inf H).call 148 along
noncomputable def slices_Index_int (s : Bool × List Int) (v : Int) : Option Int := (inf H).call 173 (s, v)
theorem key_slices_Index_int : H.key 173 = some h_slices_Index_int := by kernel_rfl
noncomputable def slices_Index_int_L0 (s : Bool × List Int) (v : Int) (t7 : Int) (t8 : Int) : Option (Int ⊕ Unit) := (inf H).loop 173 0 (loopCode Tryz.f173 0) (s, (v, (t7, t8)))
noncomputable def slices_Contains_int (s : Bool × List Int) (v : Int) : Option Bool := (inf H).call 96 (s, v)
noncomputable def impl_realPath_1_1 (to : Int) (a1 : Bool × List (Bool × List Int)) (a2 : Int) : Option Bool := (inf H).call 151 (to, (a1, a2))
noncomputable def slices_IndexFunc_int_by_realPath_1_1 (s : Bool × List Int) (f : (Bool × List (Bool × List Int)) × Int × Unit) : Option Int := (inf H).call 10119 (s, f)
theorem key_slices_IndexFunc_int_by_realPath_1_1 : H.key 10119 = some h_slices_IndexFunc_int_by_realPath_1_1 := by kernel_rfl
noncomputable def slices_IndexFunc_int_by_realPath_1_1_L0 (s : Bool × List Int) (f : (Bool × List (Bool × List Int)) × Int × Unit) (t7 : Int) (t8 : Int) : Option (Int ⊕ Unit) := (inf H).loop 10119 0 (loopCode Tryz.f152 0) (s, (f, (t7, t8)))
noncomputable def slices_ContainsFunc_int_by_realPath_1_1 (s : Bool × List Int) (f : (Bool × List (Bool × List Int)) × Int × Unit) : Option Bool := (inf H).call 10118 (s, f)
noncomputable def impl_realPath_1 (no : Int) (a1 : Bool × List (Bool × List Int)) (a2 : Bool × List (Bool × List Int)) (a3 : Int) : Option Bool := (inf H).call 150 (no, (a1, (a2, a3)))
noncomputable def slices_IndexFunc_int_by_realPath_1 (s : Bool × List Int) (f : (Bool × List (Bool × List Int)) × (Bool × List (Bool × List Int)) × Int × Unit) : Option Int := (inf H).call 10116 (s, f)
theorem key_slices_IndexFunc_int_by_realPath_1 : H.key 10116 = some h_slices_IndexFunc_int_by_realPath_1 := by kernel_rfl
noncomputable def slices_IndexFunc_int_by_realPath_1_L0 (s : Bool × List Int) (f : (Bool × List (Bool × List Int)) × (Bool × List (Bool × List Int)) × Int × Unit) (t7 : Int) (t8 : Int) : Option (Int ⊕ Unit) := (inf H).loop 10116 0 (loopCode Tryz.f152 0) (s, (f, (t7, t8)))
noncomputable def slices_DeleteFunc_int_by_realPath_1 (s : Bool × List Int) (del : (Bool × List (Bool × List Int)) × (Bool × List (Bool × List Int)) × Int × Unit) : Option (Bool × List Int) := (inf H).call 10115 (s, del)
theorem key_slices_DeleteFunc_int_by_realPath_1 : H.key 10115 = some h_slices_DeleteFunc_int_by_realPath_1 := by kernel_rfl
noncomputable def slices_DeleteFunc_int_by_realPath_1_L0 (s : Bool × List Int) (del : (Bool × List (Bool × List Int)) × (Bool × List (Bool × List Int)) × Int × Unit) (i : Int) (j : Int) : Option ((Bool × List Int) × Int) := (inf H).loop 10115 0 (loopCode Tryz.f149 0) (s, (del, (i, j)))
noncomputable def impl_realPath_1_1_2 (to : Int) (a1 : Bool × List (Option (Bool × List Int))) (a2 : Int) : Option Bool := (inf H).call 10128 (to, (a1, a2))
noncomputable def slices_IndexFunc_int_by_realPath_1_1_2 (s : Bool × List Int) (f : (Bool × List (Option (Bool × List Int))) × Int × Unit) : Option Int := (inf H).call 10127 (s, f)
theorem key_slices_IndexFunc_int_by_realPath_1_1_2 : H.key 10127 = some h_slices_IndexFunc_int_by_realPath_1_1_2 := by kernel_rfl
noncomputable def slices_IndexFunc_int_by_realPath_1_1_2_L0 (s : Bool × List Int) (f : (Bool × List (Option (Bool × List Int))) × Int × Unit) (t7 : Int) (t8 : Int) : Option (Int ⊕ Unit) := (inf H).loop 10127 0 (loopCode Tryz.f152 0) (s, (f, (t7, t8)))
noncomputable def slices_ContainsFunc_int_by_realPath_1_1_2 (s : Bool × List Int) (f : (Bool × List (Option (Bool × List Int))) × Int × Unit) : Option Bool := (inf H).call 10126 (s, f)
noncomputable def impl_realPath_1_2 (no : Int) (a1 : Bool × List (Bool × List Int)) (a2 : Bool × List (Option (Bool × List Int))) (a3 : Int) : Option Bool := (inf H).call 10125 (no, (a1, (a2, a3)))
noncomputable def slices_IndexFunc_int_by_realPath_1_2 (s : Bool × List Int) (f : (Bool × List (Bool × List Int)) × (Bool × List (Option (Bool × List Int))) × Int × Unit) : Option Int := (inf H).call 10124 (s, f)
theorem key_slices_IndexFunc_int_by_realPath_1_2 : H.key 10124 = some h_slices_IndexFunc_int_by_realPath_1_2 := by kernel_rfl
noncomputable def slices_IndexFunc_int_by_realPath_1_2_L0 (s : Bool × List Int) (f : (Bool × List (Bool × List Int)) × (Bool × List (Option (Bool × List Int))) × Int × Unit) (t7 : Int) (t8 : Int) : Option (Int ⊕ Unit) := (inf H).loop 10124 0 (loopCode Tryz.f152 0) (s, (f, (t7, t8)))
noncomputable def slices_DeleteFunc_int_by_realPath_1_2 (s : Bool × List Int) (del : (Bool × List (Bool × List Int)) × (Bool × List (Option (Bool × List Int))) × Int × Unit) : Option (Bool × List Int) := (inf H).call 10123 (s, del)
theorem key_slices_DeleteFunc_int_by_realPath_1_2 : H.key 10123 = some h_slices_DeleteFunc_int_by_realPath_1_2 := by kernel_rfl
noncomputable def slices_DeleteFunc_int_by_realPath_1_2_L0 (s : Bool × List Int) (del : (Bool × List (Bool × List Int)) × (Bool × List (Option (Bool × List Int))) × Int × Unit) (i : Int) (j : Int) : Option ((Bool × List Int) × Int) := (inf H).loop 10123 0 (loopCode Tryz.f149 0) (s, (del, (i, j)))
noncomputable def impl_realPath_2 (to : Int) (a1 : Bool × List (Bool × List Int)) (a2 : Bool × List Int) (a3 : Int) : Option Bool := (inf H).call 153 (to, (a1, (a2, a3)))
noncomputable def slices_IndexFunc_int_by_realPath_2 (s : Bool × List Int) (f : (Bool × List (Bool × List Int)) × (Bool × List Int) × Int × Unit) : Option Int := (inf H).call 10129 (s, f)
theorem key_slices_IndexFunc_int_by_realPath_2 : H.key 10129 = some h_slices_IndexFunc_int_by_realPath_2 := by kernel_rfl
noncomputable def slices_IndexFunc_int_by_realPath_2_L0 (s : Bool × List Int) (f : (Bool × List (Bool × List Int)) × (Bool × List Int) × Int × Unit) (t7 : Int) (t8 : Int) : Option (Int ⊕ Unit) := (inf H).loop 10129 0 (loopCode Tryz.f152 0) (s, (f, (t7, t8)))
noncomputable def impl_realPath (p : DProgram) (v : DSight) (path : Bool × List Int) : Option (Bool × List Int) := (inf H).call 77 (p, (v, path))
theorem key_impl_realPath : H.key 77 = some h_impl_realPath := by kernel_rfl
noncomputable def impl_realPath_L0 (along : Bool × List (Bool × List Int)) (next : Bool × List (Bool × List Int)) (last : Int) (k_ : Int) : Option (Bool × List (Bool × List Int)) := (inf H).loop 77 0 (loopCode Tryz.f77 0) (along, (next, (last, k_)))
noncomputable def impl_realPath_L2 (along : Bool × List (Bool × List Int)) (next : Bool × List (Bool × List Int)) (last : Int) (out : Bool × List Int) (k_ : Int) : Option (Bool × List Int) := (inf H).loop 77 2 (loopCode Tryz.f77 2) (along, (next, (last, (out, k_))))
noncomputable def impl_RealPath (p : DProgram) (v : DSight) (path : Bool × List Int) : Option ((Bool × List Int) × Bool) := (inf H).call 30 (p, (v, path))
noncomputable def laws_eqIntS (a : Bool × List Int) (b : Bool × List Int) : Option Bool := (inf H).call 31 (a, b)
theorem key_laws_eqIntS : H.key 31 = some h_laws_eqIntS := by kernel_rfl
noncomputable def laws_eqIntS_L0 (a : Bool × List Int) (b : Bool × List Int) (i : Int) : Option (Bool ⊕ Unit) := (inf H).loop 31 0 (loopCode Tryz.f31 0) (a, (b, i))
noncomputable def laws_eqNode (a : DNode) (b : DNode) : Option Bool := (inf H).call 92 (a, b)
noncomputable def laws_eqNodeS (a : Bool × List DNode) (b : Bool × List DNode) : Option Bool := (inf H).call 43 (a, b)
theorem key_laws_eqNodeS : H.key 43 = some h_laws_eqNodeS := by kernel_rfl
noncomputable def laws_eqNodeS_L0 (a : Bool × List DNode) (b : Bool × List DNode) (i : Int) : Option (Bool ⊕ Unit) := (inf H).loop 43 0 (loopCode Tryz.f43 0) (a, (b, i))
noncomputable def laws_eqChange (a : DChange) (b : DChange) : Option Bool := (inf H).call 291 (a, b)
noncomputable def laws_eqChangeS (a : Bool × List DChange) (b : Bool × List DChange) : Option Bool := (inf H).call 225 (a, b)
theorem key_laws_eqChangeS : H.key 225 = some h_laws_eqChangeS := by kernel_rfl
noncomputable def laws_eqChangeS_L0 (a : Bool × List DChange) (b : Bool × List DChange) (i : Int) : Option (Bool ⊕ Unit) := (inf H).loop 225 0 (loopCode Tryz.f225 0) (a, (b, i))
noncomputable def laws_eqCommand (a : DCommand) (b : DCommand) : Option Bool := (inf H).call 154 (a, b)
noncomputable def laws_eqCommandS (a : Bool × List DCommand) (b : Bool × List DCommand) : Option Bool := (inf H).call 78 (a, b)
theorem key_laws_eqCommandS : H.key 78 = some h_laws_eqCommandS := by kernel_rfl
noncomputable def laws_eqCommandS_L0 (a : Bool × List DCommand) (b : Bool × List DCommand) (i : Int) : Option (Bool ⊕ Unit) := (inf H).loop 78 0 (loopCode Tryz.f78 0) (a, (b, i))
noncomputable def laws_eqProgram (a : DProgram) (b : DProgram) : Option Bool := (inf H).call 32 (a, b)
noncomputable def laws_eqSight (a : DSight) (b : DSight) : Option Bool := (inf H).call 17 (a, b)
noncomputable def laws_markNodeS (a : Bool × List DNode) (k_ : Int) : Option ((Bool × List DNode) × Int) := (inf H).call 44 (a, k_)
theorem key_laws_markNodeS : H.key 44 = some h_laws_markNodeS := by kernel_rfl
noncomputable def laws_markNodeS_L0 (a : Bool × List DNode) (k_ : Int) (i : Int) : Option ((Bool × List DNode) × Int) := (inf H).loop 44 0 (loopCode Tryz.f44 0) (a, (k_, i))
noncomputable def laws_markChangeS (a : Bool × List DChange) (k_ : Int) : Option ((Bool × List DChange) × Int) := (inf H).call 155 (a, k_)
theorem key_laws_markChangeS : H.key 155 = some h_laws_markChangeS := by kernel_rfl
noncomputable def laws_markChangeS_L0 (a : Bool × List DChange) (k_ : Int) (i : Int) : Option ((Bool × List DChange) × Int) := (inf H).loop 155 0 (loopCode Tryz.f155 0) (a, (k_, i))
noncomputable def laws_markCommandS (a : Bool × List DCommand) (k_ : Int) : Option ((Bool × List DCommand) × Int) := (inf H).call 79 (a, k_)
theorem key_laws_markCommandS : H.key 79 = some h_laws_markCommandS := by kernel_rfl
noncomputable def laws_markCommandS_L0 (a : Bool × List DCommand) (k_ : Int) (i : Int) : Option ((Bool × List DCommand) × Int) := (inf H).loop 79 0 (loopCode Tryz.f79 0) (a, (k_, i))
noncomputable def laws_markProgram (a0_0 : Int) (a0_1 : Int) (a0_2 : Bool × List DNode) (a0_3 : Bool × List DCommand) (k_ : Int) : Option ((Bool × List DNode) × (Bool × List DCommand) × Int) := (inf H).call 33 (a0_0, (a0_1, (a0_2, (a0_3, k_))))
noncomputable def laws_markIntS (a : Bool × List Int) (k_ : Int) : Option ((Bool × List Int) × Int) := (inf H).call 34 (a, k_)
theorem key_laws_markIntS : H.key 34 = some h_laws_markIntS := by kernel_rfl
noncomputable def laws_markIntS_L0 (a : Bool × List Int) (k_ : Int) (i : Int) : Option ((Bool × List Int) × Int) := (inf H).loop 34 0 (loopCode Tryz.f34 0) (a, (k_, i))
noncomputable def laws_markSight (a : Bool × List Int) (k_ : Int) : Option ((Bool × List Int) × Int) := (inf H).call 22 (a, k_)
noncomputable def laws_heldIntS (a : Bool × List Int) (k_ : Int) : Option Int := (inf H).call 35 (a, k_)
theorem key_laws_heldIntS : H.key 35 = some h_laws_heldIntS := by kernel_rfl
noncomputable def laws_heldIntS_L0 (a : Bool × List Int) (k_ : Int) (i : Int) : Option (Int ⊕ Int) := (inf H).loop 35 0 (loopCode Tryz.f35 0) (a, (k_, i))
noncomputable def laws_FnExactRealPath (aP : DProgram) (aV : DSight) (aPath : Bool × List Int) : Option Bool := (inf H).call 4 (aP, (aV, aPath))
theorem laws_szNodeS_eq (a : Bool × List DNode) (left_ : Int) : laws_szNodeS a left_ =
 bif decide ((IntKind.i64.wrap (left_ - (a.2.length : Int))) < 0) then
 some (-1)
else 
 some (IntKind.i64.wrap (left_ - (a.2.length : Int))) := Eq.trans (inf_call_eq (H := H) 38 (a, left_)) (by kernel_rfl)
theorem laws_szChange_eq (a : DChange) (left_ : Int) : laws_szChange a left_ =
(laws_szNodeS a.2 left_).bind fun r =>
 bif decide (r < 0) then
 some (-1)
else 
 some r := Eq.trans (inf_call_eq (H := H) 287 (a, left_)) (by kernel_rfl)
theorem laws_szChangeS_L0_eq (a : Bool × List DChange) (left_ : Int) (i : Int) : laws_szChangeS_L0 a left_ i =
 bif decide (i < (a.2.length : Int)) then
 bif decide (0 ≤ i) then
 bif decide (i < (a.2.length : Int)) then
(laws_szChange (a.2.getD (Int.toNat i) (0, (true, []))) left_).bind fun r =>
 bif decide (r < 0) then
 some (.inl (-1))
else 
(laws_szChangeS_L0 a r (IntKind.i64.wrap (i + 1))).bind fun r => some r
else none
else none
else 
 some (.inr left_) := Eq.trans (inf_loop_eq (H := H) 211 0 (loopCode Tryz.f211 0) (a, (left_, i)) key_laws_szChangeS) (by kernel_rfl)
theorem laws_szChangeS_eq (a : Bool × List DChange) (left_ : Int) : laws_szChangeS a left_ =
 bif decide ((IntKind.i64.wrap (left_ - (a.2.length : Int))) < 0) then
 some (-1)
else 
(laws_szChangeS_L0 a (IntKind.i64.wrap (left_ - (a.2.length : Int))) 0).bind fun r =>
 match r with
| .inl y =>
 some y
| .inr z =>
 some z := Eq.trans (inf_call_eq (H := H) 211 (a, left_)) (by kernel_rfl)
theorem laws_szCommand_eq (a : DCommand) (left_ : Int) : laws_szCommand a left_ =
(laws_szNodeS a.1 left_).bind fun r =>
 bif decide (r < 0) then
 some (-1)
else 
(laws_szChangeS a.2 r).bind fun r1 =>
 bif decide (r1 < 0) then
 some (-1)
else 
 some r1 := Eq.trans (inf_call_eq (H := H) 135 (a, left_)) (by kernel_rfl)
theorem laws_szCommandS_L0_eq (a : Bool × List DCommand) (left_ : Int) (i : Int) : laws_szCommandS_L0 a left_ i =
 bif decide (i < (a.2.length : Int)) then
 bif decide (0 ≤ i) then
 bif decide (i < (a.2.length : Int)) then
(laws_szCommand (a.2.getD (Int.toNat i) ((true, []), (true, []))) left_).bind fun r =>
 bif decide (r < 0) then
 some (.inl (-1))
else 
(laws_szCommandS_L0 a r (IntKind.i64.wrap (i + 1))).bind fun r => some r
else none
else none
else 
 some (.inr left_) := Eq.trans (inf_loop_eq (H := H) 69 0 (loopCode Tryz.f69 0) (a, (left_, i)) key_laws_szCommandS) (by kernel_rfl)
theorem laws_szCommandS_eq (a : Bool × List DCommand) (left_ : Int) : laws_szCommandS a left_ =
 bif decide ((IntKind.i64.wrap (left_ - (a.2.length : Int))) < 0) then
 some (-1)
else 
(laws_szCommandS_L0 a (IntKind.i64.wrap (left_ - (a.2.length : Int))) 0).bind fun r =>
 match r with
| .inl y =>
 some y
| .inr z =>
 some z := Eq.trans (inf_call_eq (H := H) 69 (a, left_)) (by kernel_rfl)
theorem laws_szProgram_eq (a : DProgram) (left_ : Int) : laws_szProgram a left_ =
(laws_szNodeS a.2.2.1 left_).bind fun r =>
 bif decide (r < 0) then
 some (-1)
else 
(laws_szCommandS a.2.2.2 r).bind fun r1 =>
 bif decide (r1 < 0) then
 some (-1)
else 
 some r1 := Eq.trans (inf_call_eq (H := H) 24 (a, left_)) (by kernel_rfl)
theorem laws_szIntS_eq (a : Bool × List Int) (left_ : Int) : laws_szIntS a left_ =
 bif decide ((IntKind.i64.wrap (left_ - (a.2.length : Int))) < 0) then
 some (-1)
else 
 some (IntKind.i64.wrap (left_ - (a.2.length : Int))) := Eq.trans (inf_call_eq (H := H) 70 (a, left_)) (by kernel_rfl)
theorem laws_szSight_eq (a : DSight) (left_ : Int) : laws_szSight a left_ =
(laws_szIntS a left_).bind fun r =>
 bif decide (r < 0) then
 some (-1)
else 
 some r := Eq.trans (inf_call_eq (H := H) 25 (a, left_)) (by kernel_rfl)
theorem laws_toNode_eq (a : DNode) : laws_toNode a =
 some (a.1, a.2) := Eq.trans (inf_call_eq (H := H) 89 a) (by kernel_rfl)
theorem laws_toNodeS_L0_eq (a : Bool × List DNode) (out : Bool × List DNode) (i : Int) : laws_toNodeS_L0 a out i =
 bif decide (i < (a.2.length : Int)) then
 bif decide (0 ≤ i) then
 bif decide (i < (a.2.length : Int)) then
(laws_toNode (a.2.getD (Int.toNat i) (0, 0))).bind fun r =>
 bif decide (0 ≤ i) then
 bif decide (i < (out.2.length : Int)) then
(laws_toNodeS_L0 a (out.1, (out.2.set (Int.toNat i) r)) (IntKind.i64.wrap (i + 1))).bind fun r => some r
else none
else none
else none
else none
else 
 some (out.1, out.2) := Eq.trans (inf_loop_eq (H := H) 40 0 (loopCode Tryz.f40 0) (a, (out, i)) key_laws_toNodeS) (by kernel_rfl)
theorem laws_toNodeS_eq (a : Bool × List DNode) : laws_toNodeS a =
 bif decide (0 ≤ (a.2.length : Int)) then
 bif decide ((a.2.length : Int) ≤ lim) then
 bif decide ((a.2.length : Int) ≤ (a.2.length : Int)) then
 bif decide ((a.2.length : Int) ≤ lim) then
(laws_toNodeS_L0 a (false, (List.replicate (Int.toNat (a.2.length : Int)) ((0, 0) : DNode))) 0).bind fun r =>
 some (r.1, r.2)
else none
else none
else none
else none := Eq.trans (inf_call_eq (H := H) 40 a) (by kernel_rfl)
theorem laws_toChange_eq (a : DChange) : laws_toChange a =
(laws_toNodeS a.2).bind fun r =>
 some (a.1, (r.1, r.2)) := Eq.trans (inf_call_eq (H := H) 288 a) (by kernel_rfl)
theorem laws_toChangeS_L0_eq (a : Bool × List DChange) (out : Bool × List DChange) (i : Int) : laws_toChangeS_L0 a out i =
 bif decide (i < (a.2.length : Int)) then
 bif decide (0 ≤ i) then
 bif decide (i < (a.2.length : Int)) then
(laws_toChange (a.2.getD (Int.toNat i) (0, (true, [])))).bind fun r =>
 bif decide (0 ≤ i) then
 bif decide (i < (out.2.length : Int)) then
(laws_toChangeS_L0 a (out.1, (out.2.set (Int.toNat i) (r.1, (r.2.1, r.2.2)))) (IntKind.i64.wrap (i + 1))).bind fun r => some r
else none
else none
else none
else none
else 
 some (out.1, out.2) := Eq.trans (inf_loop_eq (H := H) 217 0 (loopCode Tryz.f217 0) (a, (out, i)) key_laws_toChangeS) (by kernel_rfl)
theorem laws_toChangeS_eq (a : Bool × List DChange) : laws_toChangeS a =
 bif decide (0 ≤ (a.2.length : Int)) then
 bif decide ((a.2.length : Int) ≤ lim) then
 bif decide ((a.2.length : Int) ≤ (a.2.length : Int)) then
 bif decide ((a.2.length : Int) ≤ lim) then
(laws_toChangeS_L0 a (false, (List.replicate (Int.toNat (a.2.length : Int)) ((0, (true, [])) : DChange))) 0).bind fun r =>
 some (r.1, r.2)
else none
else none
else none
else none := Eq.trans (inf_call_eq (H := H) 217 a) (by kernel_rfl)
theorem laws_toCommand_eq (a : DCommand) : laws_toCommand a =
(laws_toNodeS a.1).bind fun r =>
(laws_toChangeS a.2).bind fun r1 =>
 some ((r.1, r.2), (r1.1, r1.2)) := Eq.trans (inf_call_eq (H := H) 141 a) (by kernel_rfl)
theorem laws_toCommandS_L0_eq (a : Bool × List DCommand) (out : Bool × List DCommand) (i : Int) : laws_toCommandS_L0 a out i =
 bif decide (i < (a.2.length : Int)) then
 bif decide (0 ≤ i) then
 bif decide (i < (a.2.length : Int)) then
(laws_toCommand (a.2.getD (Int.toNat i) ((true, []), (true, [])))).bind fun r =>
 bif decide (0 ≤ i) then
 bif decide (i < (out.2.length : Int)) then
(laws_toCommandS_L0 a (out.1, (out.2.set (Int.toNat i) ((r.1.1, r.1.2), (r.2.1, r.2.2)))) (IntKind.i64.wrap (i + 1))).bind fun r => some r
else none
else none
else none
else none
else 
 some (out.1, out.2) := Eq.trans (inf_loop_eq (H := H) 75 0 (loopCode Tryz.f75 0) (a, (out, i)) key_laws_toCommandS) (by kernel_rfl)
theorem laws_toCommandS_eq (a : Bool × List DCommand) : laws_toCommandS a =
 bif decide (0 ≤ (a.2.length : Int)) then
 bif decide ((a.2.length : Int) ≤ lim) then
 bif decide ((a.2.length : Int) ≤ (a.2.length : Int)) then
 bif decide ((a.2.length : Int) ≤ lim) then
(laws_toCommandS_L0 a (false, (List.replicate (Int.toNat (a.2.length : Int)) (((true, []), (true, [])) : DCommand))) 0).bind fun r =>
 some (r.1, r.2)
else none
else none
else none
else none := Eq.trans (inf_call_eq (H := H) 75 a) (by kernel_rfl)
theorem laws_toProgram_eq (a : DProgram) : laws_toProgram a =
(laws_toNodeS a.2.2.1).bind fun r =>
(laws_toCommandS a.2.2.2).bind fun r1 =>
 some (a.1, (a.2.1, ((r.1, r.2), (r1.1, r1.2)))) := Eq.trans (inf_call_eq (H := H) 27 a) (by kernel_rfl)
theorem laws_toIntS_L0_eq (a : Bool × List Int) (out : Bool × List Int) (i : Int) : laws_toIntS_L0 a out i =
 bif decide (i < (a.2.length : Int)) then
 bif decide (0 ≤ i) then
 bif decide (i < (a.2.length : Int)) then
 bif decide (0 ≤ i) then
 bif decide (i < (out.2.length : Int)) then
(laws_toIntS_L0 a (out.1, (out.2.set (Int.toNat i) (a.2.getD (Int.toNat i) 0))) (IntKind.i64.wrap (i + 1))).bind fun r => some r
else none
else none
else none
else none
else 
 some (out.1, out.2) := Eq.trans (inf_loop_eq (H := H) 29 0 (loopCode Tryz.f29 0) (a, (out, i)) key_laws_toIntS) (by kernel_rfl)
theorem laws_toIntS_eq (a : Bool × List Int) : laws_toIntS a =
 bif decide (0 ≤ (a.2.length : Int)) then
 bif decide ((a.2.length : Int) ≤ lim) then
 bif decide ((a.2.length : Int) ≤ (a.2.length : Int)) then
 bif decide ((a.2.length : Int) ≤ lim) then
(laws_toIntS_L0 a (false, (List.replicate (Int.toNat (a.2.length : Int)) (0 : Int))) 0).bind fun r =>
 some (r.1, r.2)
else none
else none
else none
else none := Eq.trans (inf_call_eq (H := H) 29 a) (by kernel_rfl)
theorem laws_toSight_eq (a : DSight) : laws_toSight a =
(laws_toIntS a).bind fun r =>
 some (r.1, r.2) := Eq.trans (inf_call_eq (H := H) 28 a) (by kernel_rfl)
theorem spec_l1In_eq (n : Int) (lo : Int) (hi : Int) : spec_l1In n lo hi =
 bif decide (n ≥ lo) then
 some (decide (n ≤ hi))
else 
 some false := Eq.trans (inf_call_eq (H := H) 116 (n, (lo, hi))) (by kernel_rfl)
theorem spec_l1Wide_eq (wide : Int) : spec_l1Wide wide =
(spec_l1In wide 1 64).bind fun r =>
 some r := Eq.trans (inf_call_eq (H := H) 272 wide) (by kernel_rfl)
theorem spec_l2Need_eq (op : Int) : spec_l2Need op =
 bif (op == 1) then
 some (0, (1, 1))
else 
 bif (op == 2) then
 some (0, (1, 1))
else 
 bif (op == 20) then
 some (0, (2, 2))
else 
 bif (op == 13) then
 some (1, (1, 1))
else 
 bif (op == 19) then
 some (1, (2, 2))
else 
(spec_l1In op 3 12).bind fun r =>
 bif r then
 some (2, (1, 1))
else 
(spec_l1In op 14 16).bind fun r1 =>
 bif r1 then
 some (2, (1, 2))
else 
 bif (op == 17) then
 some (2, (2, 2))
else 
 bif (op == 18) then
 some (2, (2, 2))
else 
 some (0, (0, 0)) := Eq.trans (inf_call_eq (H := H) 273 op) (by kernel_rfl)
theorem spec_l1Cut_L0_eq (wide : Int) (a : Int) (out : Int) (k_ : Int) : spec_l1Cut_L0 wide a out k_ =
 bif decide (k_ < wide) then
 bif decide ((IntKind.u64.wrap k_) < 0) then
 none
else 
(spec_l1Cut_L0 wide a (bOr .u64 out (bAnd .u64 a (bShl .u64 1 (IntKind.u64.wrap k_)))) (IntKind.i64.wrap (k_ + 1))).bind fun r => some r
else 
 some out := Eq.trans (inf_loop_eq (H := H) 307 0 (loopCode Tryz.f307 0) (wide, (a, (out, k_))) key_spec_l1Cut) (by kernel_rfl)
theorem spec_l1Cut_eq (wide : Int) (a : Int) : spec_l1Cut wide a =
(spec_l1Cut_L0 wide a 0 0).bind fun r =>
 some r := Eq.trans (inf_call_eq (H := H) 307 (wide, a)) (by kernel_rfl)
theorem spec_GoodWord_eq (wide : Int) (a : Int) : spec_GoodWord wide a =
(spec_l1Wide wide).bind fun r =>
 bif r then
(spec_l1Cut wide a).bind fun r1 =>
 some (r1 == a)
else 
 some false := Eq.trans (inf_call_eq (H := H) 330 (wide, a)) (by kernel_rfl)
theorem spec_l2N_eq (wide : Int) (vars : Int) (n : DNode) : spec_l2N wide vars n =
 bif (n.1 == 1) then
(spec_GoodWord wide n.2).bind fun r =>
 some r
else 
 bif (n.1 == 2) then
 some (decide (n.2 < (IntKind.u64.wrap vars)))
else 
 bif (n.1 == 20) then
 some (decide (n.2 < 2))
else 
 some (n.2 == 0) := Eq.trans (inf_call_eq (H := H) 274 (wide, (vars, n))) (by kernel_rfl)
theorem spec_l2Kind_L0_eq (wide : Int) (vars : Int) (pile : Bool × List Int) (t27 : Bool × List DNode) (t28 : Int) (t29 : Int) : spec_l2Kind_L0 wide vars pile t27 t28 t29 =
 bif decide (t29 < t28) then
 bif decide (0 ≤ t29) then
 bif decide (t29 < (t27.2.length : Int)) then
(spec_l2Need ((t27.2.getD (Int.toNat t29) (0, 0)).1)).bind fun r =>
 bif (r.2.2 == 0) then
 some (.inl 0)
else 
(spec_l2N wide vars (t27.2.getD (Int.toNat t29) (0, 0))).bind fun r1 =>
 bif !r1 then
 some (.inl 0)
else 
 bif decide ((pile.2.length : Int) < r.1) then
 some (.inl 0)
else 
(spec_l2Kind_L2 wide vars (pile.1, pile.2) r.1 r.2.1 r.2.2 t27 t28 t29).bind fun r2 =>
 match r2 with
| .inl y =>
 some (.inl y)
| .inr z =>
 bif decide (z.2.length + [r.2.2].length ≤ lim) then
(spec_l2Kind_L0 wide vars ((z.1 && false), (z.2 ++ [r.2.2])) t27 t28 (IntKind.i64.wrap (t29 + 1))).bind fun r => some r
else none
else none
else none
else 
 some (.inr (pile.1, pile.2)) := Eq.trans (inf_loop_eq (H := H) 203 0 (loopCode Tryz.f203 0) (wide, (vars, (pile, (t27, (t28, t29))))) key_spec_l2Kind) (by kernel_rfl)
theorem spec_l2Kind_L2_eq (wide : Int) (vars : Int) (pile : Bool × List Int) (many : Int) (part : Int) (own : Int) (t27 : Bool × List DNode) (t28 : Int) (t29 : Int) : spec_l2Kind_L2 wide vars pile many part own t27 t28 t29 =
 bif decide (many > 0) then
 bif decide (0 ≤ (IntKind.i64.wrap ((pile.2.length : Int) - 1))) then
 bif decide ((IntKind.i64.wrap ((pile.2.length : Int) - 1)) < (pile.2.length : Int)) then
 bif ((pile.2.getD (Int.toNat (IntKind.i64.wrap ((pile.2.length : Int) - 1))) 0) != part) then
 some (.inl 0)
else 
 bif decide (0 ≤ (IntKind.i64.wrap ((pile.2.length : Int) - 1))) then
 bif decide ((IntKind.i64.wrap ((pile.2.length : Int) - 1)) ≤ (pile.2.length : Int)) then
(spec_l2Kind_L2 wide vars (pile.1, ((pile.2.take (Int.toNat (IntKind.i64.wrap ((pile.2.length : Int) - 1)))).drop 0)) (IntKind.i64.wrap (many - 1)) part own t27 t28 t29).bind fun r => some r
else none
else none
else none
else none
else 
 some (.inr (pile.1, pile.2)) := Eq.trans (inf_loop_eq (H := H) 203 2 (loopCode Tryz.f203 2) (wide, (vars, (pile, (many, (part, (own, (t27, (t28, t29)))))))) key_spec_l2Kind) (by kernel_rfl)
theorem spec_l2Kind_eq (wide : Int) (vars : Int) (t : Bool × List DNode) : spec_l2Kind wide vars t =
(spec_l1Wide wide).bind fun r =>
 bif !r then
 some 0
else 
(spec_l1In vars 1 4).bind fun r1 =>
 bif !r1 then
 some 0
else 
(spec_l1In (t.2.length : Int) 1 48).bind fun r2 =>
 bif !r2 then
 some 0
else 
(spec_l2Kind_L0 wide vars (true, []) t (t.2.length : Int) 0).bind fun r3 =>
 match r3 with
| .inl y =>
 some y
| .inr z =>
 bif ((z.2.length : Int) != 1) then
 some 0
else 
 bif decide (0 < (z.2.length : Int)) then
 some (z.2.getD 0 0)
else none := Eq.trans (inf_call_eq (H := H) 203 (wide, (vars, t))) (by kernel_rfl)
theorem spec_l7Asks_eq (p : DProgram) (t : Bool × List DNode) : spec_l7Asks p t =
(spec_l2Kind p.1 p.2.1 t).bind fun r =>
 some (r == 2) := Eq.trans (inf_call_eq (H := H) 123 (p, t)) (by kernel_rfl)
theorem spec_l7Command_L0_eq (p : DProgram) (c : DCommand) (t21 : Bool × List DChange) (t22 : Int) (t23 : Int) : spec_l7Command_L0 p c t21 t22 t23 =
 bif decide (t23 < t22) then
 bif decide (0 ≤ t23) then
 bif decide (t23 < (t21.2.length : Int)) then
(spec_l1In ((t21.2.getD (Int.toNat t23) (0, (true, []))).1) 0 (IntKind.i64.wrap (p.2.1 - 1))).bind fun r =>
 bif !r then
 some (.inl false)
else 
 bif decide (t23 > 0) then
 bif decide (0 ≤ (IntKind.i64.wrap (t23 - 1))) then
 bif decide ((IntKind.i64.wrap (t23 - 1)) < (c.2.2.length : Int)) then
 bif decide (((c.2.2.getD (Int.toNat (IntKind.i64.wrap (t23 - 1))) (0, (true, []))).1) ≥ ((t21.2.getD (Int.toNat t23) (0, (true, []))).1)) then
 some (.inl false)
else 
(spec_l2Kind p.1 p.2.1 ((t21.2.getD (Int.toNat t23) (0, (true, []))).2)).bind fun r1 =>
 bif (r1 != 1) then
 some (.inl false)
else 
(spec_l7Command_L0 p c t21 t22 (IntKind.i64.wrap (t23 + 1))).bind fun r => some r
else none
else none
else 
(spec_l2Kind p.1 p.2.1 ((t21.2.getD (Int.toNat t23) (0, (true, []))).2)).bind fun r2 =>
 bif (r2 != 1) then
 some (.inl false)
else 
(spec_l7Command_L0 p c t21 t22 (IntKind.i64.wrap (t23 + 1))).bind fun r => some r
else none
else none
else 
 some (.inr ()) := Eq.trans (inf_loop_eq (H := H) 269 0 (loopCode Tryz.f269 0) (p, (c, (t21, (t22, t23)))) key_spec_l7Command) (by kernel_rfl)
theorem spec_l7Command_eq (p : DProgram) (c : DCommand) : spec_l7Command p c =
(spec_l7Asks p c.1).bind fun r =>
 bif !r then
 some false
else 
 bif decide ((c.2.2.length : Int) > p.2.1) then
 some false
else 
(spec_l7Command_L0 p c c.2 (c.2.2.length : Int) 0).bind fun r1 =>
 match r1 with
| .inl y =>
 some y
| .inr z =>
 some true := Eq.trans (inf_call_eq (H := H) 269 (p, c)) (by kernel_rfl)
theorem spec_GoodProgram_L0_eq (p : DProgram) (t18 : Bool × List DCommand) (t19 : Int) (t20 : Int) : spec_GoodProgram_L0 p t18 t19 t20 =
 bif decide (t20 < t19) then
 bif decide (0 ≤ t20) then
 bif decide (t20 < (t18.2.length : Int)) then
(spec_l7Command p (t18.2.getD (Int.toNat t20) ((true, []), (true, [])))).bind fun r =>
 bif !r then
 some (.inl false)
else 
(spec_GoodProgram_L0 p t18 t19 (IntKind.i64.wrap (t20 + 1))).bind fun r => some r
else none
else none
else 
 some (.inr ()) := Eq.trans (inf_loop_eq (H := H) 200 0 (loopCode Tryz.f200 0) (p, (t18, (t19, t20))) key_spec_GoodProgram) (by kernel_rfl)
theorem spec_GoodProgram_eq (p : DProgram) : spec_GoodProgram p =
(spec_l7Asks p p.2.2.1).bind fun r =>
 bif !r then
 some false
else 
(spec_l1In (p.2.2.2.2.length : Int) 1 6).bind fun r1 =>
 bif !r1 then
 some false
else 
(spec_GoodProgram_L0 p p.2.2.2 (p.2.2.2.2.length : Int) 0).bind fun r2 =>
 match r2 with
| .inl y =>
 some y
| .inr z =>
 some true := Eq.trans (inf_call_eq (H := H) 200 p) (by kernel_rfl)
theorem spec_l7Small_eq (p : DProgram) : spec_l7Small p =
(spec_GoodProgram p).bind fun r =>
 bif r then
 some (decide ((IntKind.i64.wrap (p.1 * p.2.1)) ≤ 5))
else 
 some false := Eq.trans (inf_call_eq (H := H) 121 p) (by kernel_rfl)
theorem spec_l7Many_eq (p : DProgram) : spec_l7Many p =
 bif decide ((IntKind.u64.wrap (IntKind.i64.wrap (p.1 * p.2.1))) < 0) then
 none
else 
 some (bShl .i64 1 (IntKind.u64.wrap (IntKind.i64.wrap (p.1 * p.2.1)))) := Eq.trans (inf_call_eq (H := H) 159 p) (by kernel_rfl)
theorem spec_GoodSight_L0_eq (many : Int) (t20 : Bool × List Int) (t21 : Int) (t22 : Int) : spec_GoodSight_L0 many t20 t21 t22 =
 bif decide (t22 < t21) then
 bif decide (0 ≤ t22) then
 bif decide (t22 < (t20.2.length : Int)) then
(spec_l1In (t20.2.getD (Int.toNat t22) 0) 0 many).bind fun r =>
 bif !r then
 some (.inl false)
else 
 bif ((t20.2.getD (Int.toNat t22) 0) == many) then
(spec_GoodSight_L0 (IntKind.i64.wrap (many + 1)) t20 t21 (IntKind.i64.wrap (t22 + 1))).bind fun r => some r
else 
(spec_GoodSight_L0 many t20 t21 (IntKind.i64.wrap (t22 + 1))).bind fun r => some r
else none
else none
else 
 some (.inr ()) := Eq.trans (inf_loop_eq (H := H) 136 0 (loopCode Tryz.f136 0) (many, (t20, (t21, t22))) key_spec_GoodSight) (by kernel_rfl)
theorem spec_GoodSight_eq (p : DProgram) (v : DSight) : spec_GoodSight p v =
(spec_l7Small p).bind fun r =>
 bif !r then
 some false
else 
(spec_l7Many p).bind fun r1 =>
 bif ((v.2.length : Int) != r1) then
 some false
else 
(spec_GoodSight_L0 0 v (v.2.length : Int) 0).bind fun r2 =>
 match r2 with
| .inl y =>
 some y
| .inr z =>
 some true := Eq.trans (inf_call_eq (H := H) 136 (p, v)) (by kernel_rfl)
theorem spec_l15Many_L0_eq (many : Int) (t7 : Bool × List Int) (t8 : Int) (t9 : Int) : spec_l15Many_L0 many t7 t8 t9 =
 bif decide (t9 < t8) then
 bif decide (0 ≤ t9) then
 bif decide (t9 < (t7.2.length : Int)) then
 bif decide ((t7.2.getD (Int.toNat t9) 0) ≥ many) then
(spec_l15Many_L0 (IntKind.i64.wrap ((t7.2.getD (Int.toNat t9) 0) + 1)) t7 t8 (IntKind.i64.wrap (t9 + 1))).bind fun r => some r
else 
(spec_l15Many_L0 many t7 t8 (IntKind.i64.wrap (t9 + 1))).bind fun r => some r
else none
else none
else 
 some many := Eq.trans (inf_loop_eq (H := H) 188 0 (loopCode Tryz.f188 0) (many, (t7, (t8, t9))) key_spec_l15Many) (by kernel_rfl)
theorem spec_l15Many_eq (v : DSight) : spec_l15Many v =
(spec_l15Many_L0 0 v (v.2.length : Int) 0).bind fun r =>
 some r := Eq.trans (inf_call_eq (H := H) 188 v) (by kernel_rfl)
theorem spec_l1All_L0_eq (lo : Int) (hi : Int) (t9 : Bool × List Int) (t10 : Int) (t11 : Int) : spec_l1All_L0 lo hi t9 t10 t11 =
 bif decide (t11 < t10) then
 bif decide (0 ≤ t11) then
 bif decide (t11 < (t9.2.length : Int)) then
(spec_l1In (t9.2.getD (Int.toNat t11) 0) lo hi).bind fun r =>
 bif !r then
 some (.inl false)
else 
(spec_l1All_L0 lo hi t9 t10 (IntKind.i64.wrap (t11 + 1))).bind fun r => some r
else none
else none
else 
 some (.inr ()) := Eq.trans (inf_loop_eq (H := H) 212 0 (loopCode Tryz.f212 0) (lo, (hi, (t9, (t10, t11)))) key_spec_l1All) (by kernel_rfl)
theorem spec_l1All_eq (l : Bool × List Int) (lo : Int) (hi : Int) : spec_l1All l lo hi =
(spec_l1All_L0 lo hi l (l.2.length : Int) 0).bind fun r =>
 match r with
| .inl y =>
 some y
| .inr z =>
 some true := Eq.trans (inf_call_eq (H := H) 212 (l, (lo, hi))) (by kernel_rfl)
theorem spec_l19Classes_eq (v : DSight) (l : Bool × List Int) : spec_l19Classes v l =
(spec_l15Many v).bind fun r =>
(spec_l1All l 0 (IntKind.i64.wrap (r - 1))).bind fun r1 =>
 some r1 := Eq.trans (inf_call_eq (H := H) 137 (v, l)) (by kernel_rfl)
theorem spec_l19Path_eq (p : DProgram) (v : DSight) (path : Bool × List Int) : spec_l19Path p v path =
(spec_GoodSight p v).bind fun r =>
 bif r then
(spec_l1In (path.2.length : Int) 1 200).bind fun r1 =>
 bif r1 then
(spec_l19Classes v path).bind fun r2 =>
 some r2
else 
 some false
else 
 some false := Eq.trans (inf_call_eq (H := H) 71 (p, (v, path))) (by kernel_rfl)
theorem spec_l7Of_L0_eq (no : Int) (p : DProgram) (out : Bool × List Int) (v : Int) : spec_l7Of_L0 no p out v =
 bif decide (v < p.2.1) then
 bif decide ((IntKind.u64.wrap (IntKind.i64.wrap (v * p.1))) < 0) then
 none
else 
 bif decide ((IntKind.u64.wrap p.1) < 0) then
 none
else 
 bif decide (out.2.length + [IntKind.u64.wrap (bAnd .i64 (bShr .i64 no (IntKind.u64.wrap (IntKind.i64.wrap (v * p.1)))) (IntKind.i64.wrap ((bShl .i64 1 (IntKind.u64.wrap p.1)) - 1)))].length ≤ lim) then
(spec_l7Of_L0 no p ((out.1 && false), (out.2 ++ [IntKind.u64.wrap (bAnd .i64 (bShr .i64 no (IntKind.u64.wrap (IntKind.i64.wrap (v * p.1)))) (IntKind.i64.wrap ((bShl .i64 1 (IntKind.u64.wrap p.1)) - 1)))])) (IntKind.i64.wrap (v + 1))).bind fun r => some r
else none
else 
 some (out.1, out.2) := Eq.trans (inf_loop_eq (H := H) 176 0 (loopCode Tryz.f176 0) (no, (p, (out, v))) key_spec_l7Of) (by kernel_rfl)
theorem spec_l7Of_eq (p : DProgram) (no : Int) : spec_l7Of p no =
(spec_l7Of_L0 no p (true, []) 0).bind fun r =>
 some (r.1, r.2) := Eq.trans (inf_call_eq (H := H) 176 (p, no)) (by kernel_rfl)
theorem spec_l2From_L0_eq (t : Bool × List DNode) (many : Int) (from_ : Int) : spec_l2From_L0 t many from_ =
 bif decide (many > 0) then
(spec_l2From t (IntKind.i64.wrap (from_ - 1))).bind fun r =>
(spec_l2From_L0 t (IntKind.i64.wrap (many - 1)) r).bind fun r => some r
else 
 some from_ := Eq.trans (inf_loop_eq (H := H) 309 0 (loopCode Tryz.f309 0) (t, (many, from_)) key_spec_l2From) (by kernel_rfl)
theorem spec_l2From_eq (t : Bool × List DNode) (k_ : Int) : spec_l2From t k_ =
 bif decide (0 ≤ k_) then
 bif decide (k_ < (t.2.length : Int)) then
(spec_l2Need ((t.2.getD (Int.toNat k_) (0, 0)).1)).bind fun r =>
(spec_l2From_L0 t r.1 k_).bind fun r1 =>
 some r1
else none
else none := Eq.trans (inf_call_eq (H := H) 309 (t, k_)) (by kernel_rfl)
theorem spec_l1Both_eq (wide : Int) (a : Int) (b : Int) : spec_l1Both wide a b =
(spec_GoodWord wide a).bind fun r =>
 bif r then
(spec_GoodWord wide b).bind fun r1 =>
 some r1
else 
 some false := Eq.trans (inf_call_eq (H := H) 369 (wide, (a, b))) (by kernel_rfl)
theorem spec_DivWord_eq (wide : Int) (a : Int) (b : Int) : spec_DivWord wide a b =
(spec_l1Both wide a b).bind fun r =>
 bif !r then
 some (0, (0, false))
else 
 bif (b == 0) then
(spec_l1Cut wide 18446744073709551615).bind fun r1 =>
 some (r1, (a, true))
else 
 bif (b == 0) then
 none
else 
 bif (b == 0) then
 none
else 
 some (IntKind.u64.wrap (Int.tdiv a b), (Int.tmod a b, true)) := Eq.trans (inf_call_eq (H := H) 343 (wide, (a, b))) (by kernel_rfl)
theorem spec_l1Shift_L0_eq (wide : Int) (a : Int) (by_ : Int) (left_ : Bool) : spec_l1Shift_L0 wide a by_ left_ =
 bif decide (by_ > 0) then
 bif left_ then
(spec_l1Cut wide (bShl .u64 a 1)).bind fun r =>
(spec_l1Shift_L0 wide r (IntKind.u64.wrap (by_ - 1)) left_).bind fun r => some r
else 
(spec_l1Shift_L0 wide (bShr .u64 a 1) (IntKind.u64.wrap (by_ - 1)) left_).bind fun r => some r
else 
 some a := Eq.trans (inf_loop_eq (H := H) 344 0 (loopCode Tryz.f344 0) (wide, (a, (by_, left_))) key_spec_l1Shift) (by kernel_rfl)
theorem spec_l1Shift_eq (wide : Int) (a : Int) (by_ : Int) (left_ : Bool) : spec_l1Shift wide a by_ left_ =
 bif decide (by_ ≥ (IntKind.u64.wrap wide)) then
 some 0
else 
(spec_l1Shift_L0 wide a by_ left_).bind fun r =>
 some r := Eq.trans (inf_call_eq (H := H) 344 (wide, (a, (by_, left_)))) (by kernel_rfl)
theorem spec_l2Bool_eq (is : Bool) : spec_l2Bool is =
 bif is then
 some 1
else 
 some 0 := Eq.trans (inf_call_eq (H := H) 345 is) (by kernel_rfl)
theorem spec_l1Signed_eq (wide : Int) (a : Int) : spec_l1Signed wide a =
 bif decide ((IntKind.u64.wrap (IntKind.i64.wrap (wide - 1))) < 0) then
 none
else 
 bif ((bAnd .u64 (bShr .u64 a (IntKind.u64.wrap (IntKind.i64.wrap (wide - 1)))) 1) == 1) then
(spec_l1Cut wide 18446744073709551615).bind fun r =>
 some (IntKind.i64.wrap (bOr .u64 a (bXor .u64 18446744073709551615 r)))
else 
 some (IntKind.i64.wrap a) := Eq.trans (inf_call_eq (H := H) 346 (wide, a)) (by kernel_rfl)
theorem spec_l2Do_eq (wide : Int) (op : Int) (a : Int) (b : Int) : spec_l2Do wide op a b =
(spec_DivWord wide a b).bind fun r =>
 bif (op == 3) then
(spec_l1Cut wide (IntKind.u64.wrap (a + b))).bind fun r1 =>
 some r1
else 
 bif (op == 4) then
(spec_l1Cut wide (IntKind.u64.wrap (a - b))).bind fun r2 =>
 some r2
else 
 bif (op == 5) then
(spec_l1Cut wide (IntKind.u64.wrap (a * b))).bind fun r3 =>
 some r3
else 
 bif (op == 6) then
 some r.1
else 
 bif (op == 7) then
 some r.2.1
else 
 bif (op == 8) then
 bif (op == 8) then
 some (bAnd .u64 a b)
else 
 bif (op == 9) then
 bif (op == 9) then
 some (bOr .u64 a b)
else 
 bif (op == 10) then
 some (bXor .u64 a b)
else 
 bif (op == 11) then
(spec_l1Shift wide a b true).bind fun r4 =>
 some r4
else 
 bif (op == 12) then
(spec_l1Shift wide a b false).bind fun r5 =>
 some r5
else 
 bif (op == 14) then
(spec_l2Bool (a == b)).bind fun r6 =>
 some r6
else 
 bif (op == 15) then
(spec_l2Bool (decide (a < b))).bind fun r7 =>
 some r7
else 
 bif (op == 16) then
(spec_l1Signed wide a).bind fun r8 =>
(spec_l1Signed wide b).bind fun r9 =>
(spec_l2Bool (decide (r8 < r9))).bind fun r10 =>
 some r10
else 
 some 0
else 
 bif (op == 18) then
 some (bOr .u64 a b)
else 
 bif (op == 10) then
 some (bXor .u64 a b)
else 
 bif (op == 11) then
(spec_l1Shift wide a b true).bind fun r11 =>
 some r11
else 
 bif (op == 12) then
(spec_l1Shift wide a b false).bind fun r12 =>
 some r12
else 
 bif (op == 14) then
(spec_l2Bool (a == b)).bind fun r13 =>
 some r13
else 
 bif (op == 15) then
(spec_l2Bool (decide (a < b))).bind fun r14 =>
 some r14
else 
 bif (op == 16) then
(spec_l1Signed wide a).bind fun r15 =>
(spec_l1Signed wide b).bind fun r16 =>
(spec_l2Bool (decide (r15 < r16))).bind fun r17 =>
 some r17
else 
 some 0
else 
 bif (op == 17) then
 some (bAnd .u64 a b)
else 
 bif (op == 9) then
 bif (op == 9) then
 some (bOr .u64 a b)
else 
 bif (op == 10) then
 some (bXor .u64 a b)
else 
 bif (op == 11) then
(spec_l1Shift wide a b true).bind fun r18 =>
 some r18
else 
 bif (op == 12) then
(spec_l1Shift wide a b false).bind fun r19 =>
 some r19
else 
 bif (op == 14) then
(spec_l2Bool (a == b)).bind fun r20 =>
 some r20
else 
 bif (op == 15) then
(spec_l2Bool (decide (a < b))).bind fun r21 =>
 some r21
else 
 bif (op == 16) then
(spec_l1Signed wide a).bind fun r22 =>
(spec_l1Signed wide b).bind fun r23 =>
(spec_l2Bool (decide (r22 < r23))).bind fun r24 =>
 some r24
else 
 some 0
else 
 bif (op == 18) then
 some (bOr .u64 a b)
else 
 bif (op == 10) then
 some (bXor .u64 a b)
else 
 bif (op == 11) then
(spec_l1Shift wide a b true).bind fun r25 =>
 some r25
else 
 bif (op == 12) then
(spec_l1Shift wide a b false).bind fun r26 =>
 some r26
else 
 bif (op == 14) then
(spec_l2Bool (a == b)).bind fun r27 =>
 some r27
else 
 bif (op == 15) then
(spec_l2Bool (decide (a < b))).bind fun r28 =>
 some r28
else 
 bif (op == 16) then
(spec_l1Signed wide a).bind fun r29 =>
(spec_l1Signed wide b).bind fun r30 =>
(spec_l2Bool (decide (r29 < r30))).bind fun r31 =>
 some r31
else 
 some 0 := Eq.trans (inf_call_eq (H := H) 308 (wide, (op, (a, b)))) (by kernel_rfl)
theorem spec_l2Value_eq (wide : Int) (t : Bool × List DNode) (k_ : Int) (state : Bool × List Int) : spec_l2Value wide t k_ state =
 bif decide (0 ≤ k_) then
 bif decide (k_ < (t.2.length : Int)) then
(spec_l2Need ((t.2.getD (Int.toNat k_) (0, 0)).1)).bind fun r =>
 bif (((t.2.getD (Int.toNat k_) (0, 0)).1) == 2) then
 bif decide (0 ≤ ((t.2.getD (Int.toNat k_) (0, 0)).2)) then
 bif decide (((t.2.getD (Int.toNat k_) (0, 0)).2) < (state.2.length : Int)) then
 some (state.2.getD (Int.toNat ((t.2.getD (Int.toNat k_) (0, 0)).2)) 0)
else none
else none
else 
 bif (r.1 == 0) then
 some ((t.2.getD (Int.toNat k_) (0, 0)).2)
else 
 bif (((t.2.getD (Int.toNat k_) (0, 0)).1) == 13) then
(spec_l2Value wide t (IntKind.i64.wrap (k_ - 1)) state).bind fun r1 =>
(spec_l1Cut wide (bXor .u64 18446744073709551615 r1)).bind fun r2 =>
 some r2
else 
 bif (((t.2.getD (Int.toNat k_) (0, 0)).1) == 19) then
(spec_l2Value wide t (IntKind.i64.wrap (k_ - 1)) state).bind fun r3 =>
 some (IntKind.u64.wrap (1 - r3))
else 
(spec_l2From t (IntKind.i64.wrap (k_ - 1))).bind fun r4 =>
(spec_l2Value wide t (IntKind.i64.wrap (r4 - 1)) state).bind fun r5 =>
(spec_l2Value wide t (IntKind.i64.wrap (k_ - 1)) state).bind fun r6 =>
(spec_l2Do wide ((t.2.getD (Int.toNat k_) (0, 0)).1) r5 r6).bind fun r7 =>
 some r7
else none
else none := Eq.trans (inf_call_eq (H := H) 240 (wide, (t, (k_, state)))) (by kernel_rfl)
theorem spec_l7Holds_eq (p : DProgram) (t : Bool × List DNode) (s : Bool × List Int) : spec_l7Holds p t s =
(spec_l2Value p.1 t (IntKind.i64.wrap ((t.2.length : Int) - 1)) s).bind fun r =>
 some (r == 1) := Eq.trans (inf_call_eq (H := H) 175 (p, (t, s))) (by kernel_rfl)
theorem spec_l8Those_L0_eq (t : Bool × List DNode) (p : DProgram) (out : Bool × List Int) (no : Int) : spec_l8Those_L0 t p out no =
(spec_l7Many p).bind fun r =>
 bif decide (no < r) then
(spec_l7Of p no).bind fun r1 =>
(spec_l7Holds p t (r1.1, r1.2)).bind fun r2 =>
 bif r2 then
 bif decide (out.2.length + [no].length ≤ lim) then
(spec_l8Those_L0 t p ((out.1 && false), (out.2 ++ [no])) (IntKind.i64.wrap (no + 1))).bind fun r => some r
else none
else 
(spec_l8Those_L0 t p (out.1, out.2) (IntKind.i64.wrap (no + 1))).bind fun r => some r
else 
 some (out.1, out.2) := Eq.trans (inf_loop_eq (H := H) 99 0 (loopCode Tryz.f99 0) (t, (p, (out, no))) key_spec_l8Those) (by kernel_rfl)
theorem spec_l8Those_eq (p : DProgram) (t : Bool × List DNode) : spec_l8Those p t =
(spec_l8Those_L0 t p (true, []) 0).bind fun r =>
 some (r.1, r.2) := Eq.trans (inf_call_eq (H := H) 99 (p, t)) (by kernel_rfl)
theorem spec_l7Enabled_L0_eq (s : Bool × List Int) (p : DProgram) (out : Bool × List Int) (t9 : Bool × List DCommand) (t10 : Int) (t11 : Int) : spec_l7Enabled_L0 s p out t9 t10 t11 =
 bif decide (t11 < t10) then
 bif decide (0 ≤ t11) then
 bif decide (t11 < (t9.2.length : Int)) then
(spec_l7Holds p ((t9.2.getD (Int.toNat t11) ((true, []), (true, []))).1) s).bind fun r =>
 bif r then
 bif decide (out.2.length + [t11].length ≤ lim) then
(spec_l7Enabled_L0 s p ((out.1 && false), (out.2 ++ [t11])) t9 t10 (IntKind.i64.wrap (t11 + 1))).bind fun r => some r
else none
else 
(spec_l7Enabled_L0 s p (out.1, out.2) t9 t10 (IntKind.i64.wrap (t11 + 1))).bind fun r => some r
else none
else none
else 
 some (out.1, out.2) := Eq.trans (inf_loop_eq (H := H) 214 0 (loopCode Tryz.f214 0) (s, (p, (out, (t9, (t10, t11))))) key_spec_l7Enabled) (by kernel_rfl)
theorem spec_l7Enabled_eq (p : DProgram) (s : Bool × List Int) : spec_l7Enabled p s =
(spec_l7Enabled_L0 s p (true, []) p.2.2.2 (p.2.2.2.2.length : Int) 0).bind fun r =>
 some (r.1, r.2) := Eq.trans (inf_call_eq (H := H) 214 (p, s)) (by kernel_rfl)
theorem spec_l7Do_L0_eq (s : Bool × List Int) (p : DProgram) (out : Bool × List Int) (t18 : Bool × List DChange) (t19 : Int) (t20 : Int) : spec_l7Do_L0 s p out t18 t19 t20 =
 bif decide (t20 < t19) then
 bif decide (0 ≤ t20) then
 bif decide (t20 < (t18.2.length : Int)) then
(spec_l2Value p.1 ((t18.2.getD (Int.toNat t20) (0, (true, []))).2) (IntKind.i64.wrap (((((t18.2.getD (Int.toNat t20) (0, (true, []))).2).2).length : Int) - 1)) s).bind fun r =>
 bif decide (0 ≤ ((t18.2.getD (Int.toNat t20) (0, (true, []))).1)) then
 bif decide (((t18.2.getD (Int.toNat t20) (0, (true, []))).1) < (out.2.length : Int)) then
(spec_l7Do_L0 s p (out.1, (out.2.set (Int.toNat ((t18.2.getD (Int.toNat t20) (0, (true, []))).1)) r)) t18 t19 (IntKind.i64.wrap (t20 + 1))).bind fun r => some r
else none
else none
else none
else none
else 
 some (out.1, out.2) := Eq.trans (inf_loop_eq (H := H) 216 0 (loopCode Tryz.f216 0) (s, (p, (out, (t18, (t19, t20))))) key_spec_l7Do) (by kernel_rfl)
theorem spec_l7Do_eq (p : DProgram) (s : Bool × List Int) (k_ : Int) : spec_l7Do p s k_ =
 bif decide (([] : List Int).length + s.2.length ≤ lim) then
 bif decide (0 ≤ k_) then
 bif decide (k_ < (p.2.2.2.2.length : Int)) then
(spec_l7Do_L0 s p (false, ([] ++ s.2)) ((p.2.2.2.2.getD (Int.toNat k_) ((true, []), (true, []))).2) ((((p.2.2.2.2.getD (Int.toNat k_) ((true, []), (true, []))).2).2).length : Int) 0).bind fun r =>
 some (r.1, r.2)
else none
else none
else none := Eq.trans (inf_call_eq (H := H) 216 (p, (s, k_))) (by kernel_rfl)
theorem spec_l7No_L0_eq (s : Bool × List Int) (p : DProgram) (n : Int) (v : Int) : spec_l7No_L0 s p n v =
 bif decide (v ≥ 0) then
 bif decide ((IntKind.u64.wrap p.1) < 0) then
 none
else 
 bif decide (0 ≤ v) then
 bif decide (v < (s.2.length : Int)) then
(spec_l7No_L0 s p (IntKind.i64.wrap ((bShl .i64 n (IntKind.u64.wrap p.1)) + (IntKind.i64.wrap (s.2.getD (Int.toNat v) 0)))) (IntKind.i64.wrap (v - 1))).bind fun r => some r
else none
else none
else 
 some n := Eq.trans (inf_loop_eq (H := H) 215 0 (loopCode Tryz.f215 0) (s, (p, (n, v))) key_spec_l7No) (by kernel_rfl)
theorem spec_l7No_eq (p : DProgram) (s : Bool × List Int) : spec_l7No p s =
(spec_l7No_L0 s p 0 (IntKind.i64.wrap (p.2.1 - 1))).bind fun r =>
 some r := Eq.trans (inf_call_eq (H := H) 215 (p, s)) (by kernel_rfl)
theorem spec_l1Put_L0_eq (l : Bool × List Int) (n : Int) (k_ : Int) : spec_l1Put_L0 l n k_ =
 bif decide (k_ < (l.2.length : Int)) then
 bif decide (0 ≤ k_) then
 bif decide (k_ < (l.2.length : Int)) then
 bif decide ((l.2.getD (Int.toNat k_) 0) < n) then
(spec_l1Put_L0 l n (IntKind.i64.wrap (k_ + 1))).bind fun r => some r
else 
 some k_
else none
else none
else 
 some k_ := Eq.trans (inf_loop_eq (H := H) 213 0 (loopCode Tryz.f213 0) (l, (n, k_)) key_spec_l1Put) (by kernel_rfl)
theorem spec_l1Put_eq (l : Bool × List Int) (n : Int) : spec_l1Put l n =
(spec_l1Put_L0 l n 0).bind fun r =>
 bif decide (r < (l.2.length : Int)) then
 bif decide (0 ≤ r) then
 bif decide (r < (l.2.length : Int)) then
 bif ((l.2.getD (Int.toNat r) 0) == n) then
 some l
else 
 bif decide (0 ≤ r) then
 bif decide (r ≤ (l.2.length : Int)) then
 bif decide (([] : List Int).length + ((l.2.take (Int.toNat r)).drop 0).length ≤ lim) then
 bif decide (([] ++ ((l.2.take (Int.toNat r)).drop 0)).length + [n].length ≤ lim) then
 bif decide (0 ≤ r) then
 bif decide (r ≤ (l.2.length : Int)) then
 bif decide ((([] ++ ((l.2.take (Int.toNat r)).drop 0)) ++ [n]).length + ((l.2.take l.2.length).drop (Int.toNat r)).length ≤ lim) then
 some (false, ((([] ++ ((l.2.take (Int.toNat r)).drop 0)) ++ [n]) ++ ((l.2.take l.2.length).drop (Int.toNat r))))
else none
else none
else none
else none
else none
else none
else none
else none
else none
else 
 bif decide (0 ≤ r) then
 bif decide (r ≤ (l.2.length : Int)) then
 bif decide (([] : List Int).length + ((l.2.take (Int.toNat r)).drop 0).length ≤ lim) then
 bif decide (([] ++ ((l.2.take (Int.toNat r)).drop 0)).length + [n].length ≤ lim) then
 bif decide (0 ≤ r) then
 bif decide (r ≤ (l.2.length : Int)) then
 bif decide ((([] ++ ((l.2.take (Int.toNat r)).drop 0)) ++ [n]).length + ((l.2.take l.2.length).drop (Int.toNat r)).length ≤ lim) then
 some (false, ((([] ++ ((l.2.take (Int.toNat r)).drop 0)) ++ [n]) ++ ((l.2.take l.2.length).drop (Int.toNat r))))
else none
else none
else none
else none
else none
else none
else none := Eq.trans (inf_call_eq (H := H) 213 (l, n)) (by kernel_rfl)
theorem spec_l8Next_L0_eq (no : Int) (p : DProgram) (s : Bool × List Int) (out : Bool × List Int) (t14 : Bool × List Int) (t15 : Int) (t16 : Int) : spec_l8Next_L0 no p s out t14 t15 t16 =
 bif decide (t16 < t15) then
 bif decide (0 ≤ t16) then
 bif decide (t16 < (t14.2.length : Int)) then
(spec_l7Do p s (t14.2.getD (Int.toNat t16) 0)).bind fun r =>
(spec_l7No p (r.1, r.2)).bind fun r1 =>
(spec_l1Put out r1).bind fun r2 =>
(spec_l8Next_L0 no p s r2 t14 t15 (IntKind.i64.wrap (t16 + 1))).bind fun r => some r
else none
else none
else 
 some out := Eq.trans (inf_loop_eq (H := H) 140 0 (loopCode Tryz.f140 0) (no, (p, (s, (out, (t14, (t15, t16)))))) key_spec_l8Next) (by kernel_rfl)
theorem spec_l8Next_eq (p : DProgram) (no : Int) : spec_l8Next p no =
(spec_l7Of p no).bind fun r =>
(spec_l7Enabled p (r.1, r.2)).bind fun r1 =>
(spec_l8Next_L0 no p (r.1, r.2) (true, []) (r1.1, r1.2) (r1.2.length : Int) 0).bind fun r2 =>
 bif ((r2.2.length : Int) == 0) then
 some (false, [no])
else 
 some r2 := Eq.trans (inf_call_eq (H := H) 140 (p, no)) (by kernel_rfl)
theorem spec_l8After_L0_eq (p : DProgram) (out : Bool × List Int) (t10 : Bool × List Int) (t11 : Int) (t12 : Int) : spec_l8After_L0 p out t10 t11 t12 =
 bif decide (t12 < t11) then
 bif decide (0 ≤ t12) then
 bif decide (t12 < (t10.2.length : Int)) then
(spec_l8Next p (t10.2.getD (Int.toNat t12) 0)).bind fun r =>
(spec_l8After_L2 p out t10 t11 t12 r (r.2.length : Int) 0).bind fun r1 =>
(spec_l8After_L0 p r1 t10 t11 (IntKind.i64.wrap (t12 + 1))).bind fun r => some r
else none
else none
else 
 some out := Eq.trans (inf_loop_eq (H := H) 138 0 (loopCode Tryz.f138 0) (p, (out, (t10, (t11, t12)))) key_spec_l8After) (by kernel_rfl)
theorem spec_l8After_L2_eq (p : DProgram) (out : Bool × List Int) (t10 : Bool × List Int) (t11 : Int) (t12 : Int) (t18 : Bool × List Int) (t19 : Int) (t20 : Int) : spec_l8After_L2 p out t10 t11 t12 t18 t19 t20 =
 bif decide (t20 < t19) then
 bif decide (0 ≤ t20) then
 bif decide (t20 < (t18.2.length : Int)) then
(spec_l1Put out (t18.2.getD (Int.toNat t20) 0)).bind fun r =>
(spec_l8After_L2 p r t10 t11 t12 t18 t19 (IntKind.i64.wrap (t20 + 1))).bind fun r => some r
else none
else none
else 
 some out := Eq.trans (inf_loop_eq (H := H) 138 2 (loopCode Tryz.f138 2) (p, (out, (t10, (t11, (t12, (t18, (t19, t20))))))) key_spec_l8After) (by kernel_rfl)
theorem spec_l8After_eq (p : DProgram) (some_ : Bool × List Int) : spec_l8After p some_ =
(spec_l8After_L0 p (true, []) some_ (some_.2.length : Int) 0).bind fun r =>
 some r := Eq.trans (inf_call_eq (H := H) 138 (p, some_)) (by kernel_rfl)
theorem spec_l19Along_L0_eq (p : DProgram) (v : DSight) (out : Bool × List (Bool × List Int)) (some_ : Bool × List Int) (t18 : Bool × List Int) (t19 : Int) (t20 : Int) : spec_l19Along_L0 p v out some_ t18 t19 t20 =
 bif decide (t20 < t19) then
 bif decide (0 ≤ t20) then
 bif decide (t20 < (t18.2.length : Int)) then
(spec_l19Along_L2 p v (out.1, out.2) (t18.2.getD (Int.toNat t20) 0) (true, []) t18 t19 t20 some_ (some_.2.length : Int) 0).bind fun r =>
 bif decide (out.2.length + [(r.1, r.2)].length ≤ lim) then
(spec_l8After p (r.1, r.2)).bind fun r1 =>
(spec_l19Along_L0 p v ((out.1 && false), (out.2 ++ [(r.1, r.2)])) r1 t18 t19 (IntKind.i64.wrap (t20 + 1))).bind fun r => some r
else none
else none
else none
else 
 some (out.1, out.2) := Eq.trans (inf_loop_eq (H := H) 72 0 (loopCode Tryz.f72 0) (p, (v, (out, (some_, (t18, (t19, t20)))))) key_spec_l19Along) (by kernel_rfl)
theorem spec_l19Along_L2_eq (p : DProgram) (v : DSight) (out : Bool × List (Bool × List Int)) (class_ : Int) (in_ : Bool × List Int) (t18 : Bool × List Int) (t19 : Int) (t20 : Int) (t24 : Bool × List Int) (t25 : Int) (t26 : Int) : spec_l19Along_L2 p v out class_ in_ t18 t19 t20 t24 t25 t26 =
 bif decide (t26 < t25) then
 bif decide (0 ≤ t26) then
 bif decide (t26 < (t24.2.length : Int)) then
 bif decide (0 ≤ (t24.2.getD (Int.toNat t26) 0)) then
 bif decide ((t24.2.getD (Int.toNat t26) 0) < (v.2.length : Int)) then
 bif ((v.2.getD (Int.toNat (t24.2.getD (Int.toNat t26) 0)) 0) == class_) then
 bif decide (in_.2.length + [(t24.2.getD (Int.toNat t26) 0)].length ≤ lim) then
(spec_l19Along_L2 p v out class_ ((in_.1 && false), (in_.2 ++ [(t24.2.getD (Int.toNat t26) 0)])) t18 t19 t20 t24 t25 (IntKind.i64.wrap (t26 + 1))).bind fun r => some r
else none
else 
(spec_l19Along_L2 p v out class_ (in_.1, in_.2) t18 t19 t20 t24 t25 (IntKind.i64.wrap (t26 + 1))).bind fun r => some r
else none
else none
else none
else none
else 
 some (in_.1, in_.2) := Eq.trans (inf_loop_eq (H := H) 72 2 (loopCode Tryz.f72 2) (p, (v, (out, (class_, (in_, (t18, (t19, (t20, (t24, (t25, t26)))))))))) key_spec_l19Along) (by kernel_rfl)
theorem spec_l19Along_eq (p : DProgram) (v : DSight) (path : Bool × List Int) : spec_l19Along p v path =
(spec_l8Those p p.2.2.1).bind fun r =>
(spec_l19Along_L0 p v (true, []) (r.1, r.2) path (path.2.length : Int) 0).bind fun r1 =>
 some (r1.1, r1.2) := Eq.trans (inf_call_eq (H := H) 72 (p, (v, path))) (by kernel_rfl)
theorem spec_l19Fails_L0_eq (t5 : Bool × List (Bool × List Int)) (t6 : Int) (t7 : Int) : spec_l19Fails_L0 t5 t6 t7 =
 bif decide (t7 < t6) then
 bif decide (0 ≤ t7) then
 bif decide (t7 < (t5.2.length : Int)) then
 bif ((((t5.2.getD (Int.toNat t7) (true, [])).2).length : Int) == 0) then
 some (.inl t7)
else 
(spec_l19Fails_L0 t5 t6 (IntKind.i64.wrap (t7 + 1))).bind fun r => some r
else none
else none
else 
 some (.inr ()) := Eq.trans (inf_loop_eq (H := H) 73 0 (loopCode Tryz.f73 0) (t5, (t6, t7)) key_spec_l19Fails) (by kernel_rfl)
theorem spec_l19Fails_eq (along : Bool × List (Bool × List Int)) : spec_l19Fails along =
(spec_l19Fails_L0 along (along.2.length : Int) 0).bind fun r =>
 match r with
| .inl y =>
 some y
| .inr z =>
 some (-1) := Eq.trans (inf_call_eq (H := H) 73 along) (by kernel_rfl)
theorem spec_l1Has_L0_eq (n : Int) (t7 : Bool × List Int) (t8 : Int) (t9 : Int) : spec_l1Has_L0 n t7 t8 t9 =
 bif decide (t9 < t8) then
 bif decide (0 ≤ t9) then
 bif decide (t9 < (t7.2.length : Int)) then
 bif ((t7.2.getD (Int.toNat t9) 0) == n) then
 some (.inl true)
else 
(spec_l1Has_L0 n t7 t8 (IntKind.i64.wrap (t9 + 1))).bind fun r => some r
else none
else none
else 
 some (.inr ()) := Eq.trans (inf_loop_eq (H := H) 98 0 (loopCode Tryz.f98 0) (n, (t7, (t8, t9))) key_spec_l1Has) (by kernel_rfl)
theorem spec_l1Has_eq (l : Bool × List Int) (n : Int) : spec_l1Has l n =
(spec_l1Has_L0 n l (l.2.length : Int) 0).bind fun r =>
 match r with
| .inl y =>
 some y
| .inr z =>
 some false := Eq.trans (inf_call_eq (H := H) 98 (l, n)) (by kernel_rfl)
theorem spec_l7Meet_L0_eq (b : Bool × List Int) (t7 : Bool × List Int) (t8 : Int) (t9 : Int) : spec_l7Meet_L0 b t7 t8 t9 =
 bif decide (t9 < t8) then
 bif decide (0 ≤ t9) then
 bif decide (t9 < (t7.2.length : Int)) then
(spec_l1Has b (t7.2.getD (Int.toNat t9) 0)).bind fun r =>
 bif r then
 some (.inl true)
else 
(spec_l7Meet_L0 b t7 t8 (IntKind.i64.wrap (t9 + 1))).bind fun r => some r
else none
else none
else 
 some (.inr ()) := Eq.trans (inf_loop_eq (H := H) 139 0 (loopCode Tryz.f139 0) (b, (t7, (t8, t9))) key_spec_l7Meet) (by kernel_rfl)
theorem spec_l7Meet_eq (a : Bool × List Int) (b : Bool × List Int) : spec_l7Meet a b =
(spec_l7Meet_L0 b a (a.2.length : Int) 0).bind fun r =>
 match r with
| .inl y =>
 some y
| .inr z =>
 some false := Eq.trans (inf_call_eq (H := H) 139 (a, b)) (by kernel_rfl)
theorem spec_l19Real_L0_eq (along : Bool × List (Bool × List Int)) (p : DProgram) (can : Bool × List (Bool × List Int)) (k_ : Int) : spec_l19Real_L0 along p can k_ =
 bif decide (k_ ≥ 0) then
 bif decide (0 ≤ k_) then
 bif decide (k_ < (along.2.length : Int)) then
(spec_l19Real_L2 along p (can.1, can.2) k_ (true, []) (along.2.getD (Int.toNat k_) (true, [])) (((along.2.getD (Int.toNat k_) (true, [])).2).length : Int) 0).bind fun r =>
 bif decide (0 ≤ k_) then
 bif decide (k_ < (can.2.length : Int)) then
(spec_l19Real_L0 along p (can.1, (can.2.set (Int.toNat k_) (r.1, r.2))) (IntKind.i64.wrap (k_ - 1))).bind fun r => some r
else none
else none
else none
else none
else 
 some (can.1, can.2) := Eq.trans (inf_loop_eq (H := H) 74 0 (loopCode Tryz.f74 0) (along, (p, (can, k_))) key_spec_l19Real) (by kernel_rfl)
theorem spec_l19Real_L2_eq (along : Bool × List (Bool × List Int)) (p : DProgram) (can : Bool × List (Bool × List Int)) (k_ : Int) (in_ : Bool × List Int) (t27 : Bool × List Int) (t28 : Int) (t29 : Int) : spec_l19Real_L2 along p can k_ in_ t27 t28 t29 =
 bif decide (t29 < t28) then
 bif decide (0 ≤ t29) then
 bif decide (t29 < (t27.2.length : Int)) then
(spec_l8Next p (t27.2.getD (Int.toNat t29) 0)).bind fun r =>
 bif decide (0 ≤ (IntKind.i64.wrap (k_ + 1))) then
 bif decide ((IntKind.i64.wrap (k_ + 1)) < (can.2.length : Int)) then
(spec_l7Meet r (can.2.getD (Int.toNat (IntKind.i64.wrap (k_ + 1))) (true, []))).bind fun r1 =>
 bif r1 then
 bif decide (in_.2.length + [(t27.2.getD (Int.toNat t29) 0)].length ≤ lim) then
(spec_l19Real_L2 along p can k_ ((in_.1 && false), (in_.2 ++ [(t27.2.getD (Int.toNat t29) 0)])) t27 t28 (IntKind.i64.wrap (t29 + 1))).bind fun r => some r
else none
else 
(spec_l19Real_L2 along p can k_ (in_.1, in_.2) t27 t28 (IntKind.i64.wrap (t29 + 1))).bind fun r => some r
else none
else none
else none
else none
else 
 some (in_.1, in_.2) := Eq.trans (inf_loop_eq (H := H) 74 2 (loopCode Tryz.f74 2) (along, (p, (can, (k_, (in_, (t27, (t28, t29))))))) key_spec_l19Real) (by kernel_rfl)
theorem spec_l19Real_L4_eq (p : DProgram) (can : Bool × List (Bool × List Int)) (out : Bool × List Int) (k_ : Int) : spec_l19Real_L4 p can out k_ =
 bif decide (k_ < (can.2.length : Int)) then
 bif decide (0 ≤ (IntKind.i64.wrap (k_ - 1))) then
 bif decide ((IntKind.i64.wrap (k_ - 1)) < (out.2.length : Int)) then
(spec_l8Next p (out.2.getD (Int.toNat (IntKind.i64.wrap (k_ - 1))) 0)).bind fun r =>
(spec_l19Real_L6 p can (out.1, out.2) k_ r (r.2.length : Int) 0).bind fun r1 =>
(spec_l19Real_L4 p can (r1.1, r1.2) (IntKind.i64.wrap (k_ + 1))).bind fun r => some r
else none
else none
else 
 some (out.1, out.2) := Eq.trans (inf_loop_eq (H := H) 74 4 (loopCode Tryz.f74 4) (p, (can, (out, k_))) key_spec_l19Real) (by kernel_rfl)
theorem spec_l19Real_L6_eq (p : DProgram) (can : Bool × List (Bool × List Int)) (out : Bool × List Int) (k_ : Int) (t69 : Bool × List Int) (t70 : Int) (t71 : Int) : spec_l19Real_L6 p can out k_ t69 t70 t71 =
 bif decide (t71 < t70) then
 bif decide (0 ≤ t71) then
 bif decide (t71 < (t69.2.length : Int)) then
 bif decide (0 ≤ k_) then
 bif decide (k_ < (can.2.length : Int)) then
(spec_l1Has (can.2.getD (Int.toNat k_) (true, [])) (t69.2.getD (Int.toNat t71) 0)).bind fun r =>
 bif r then
 bif decide (out.2.length + [(t69.2.getD (Int.toNat t71) 0)].length ≤ lim) then
 some ((out.1 && false), (out.2 ++ [(t69.2.getD (Int.toNat t71) 0)]))
else none
else 
(spec_l19Real_L6 p can (out.1, out.2) k_ t69 t70 (IntKind.i64.wrap (t71 + 1))).bind fun r => some r
else none
else none
else none
else none
else 
 some (out.1, out.2) := Eq.trans (inf_loop_eq (H := H) 74 6 (loopCode Tryz.f74 6) (p, (can, (out, (k_, (t69, (t70, t71)))))) key_spec_l19Real) (by kernel_rfl)
theorem spec_l19Real_eq (p : DProgram) (along : Bool × List (Bool × List Int)) : spec_l19Real p along =
 bif decide (([] : List (Bool × List Int)).length + along.2.length ≤ lim) then
(spec_l19Real_L0 along p (false, ([] ++ along.2)) (IntKind.i64.wrap ((([] ++ along.2).length : Int) - 2))).bind fun r =>
 bif decide (0 < (r.2.length : Int)) then
 bif decide (0 < (((r.2.getD 0 (true, [])).2).length : Int)) then
(spec_l19Real_L4 p (r.1, r.2) (false, [(((r.2.getD 0 (true, [])).2).getD 0 0)]) 1).bind fun r1 =>
 some (r1.1, r1.2)
else none
else none
else none := Eq.trans (inf_call_eq (H := H) 74 (p, along)) (by kernel_rfl)
theorem spec_RealPath_eq (p : DProgram) (v : DSight) (path : Bool × List Int) : spec_RealPath p v path =
(spec_l19Path p v path).bind fun r =>
 bif !r then
 some ((true, []), false)
else 
(spec_l19Along p v path).bind fun r1 =>
(spec_l19Fails (r1.1, r1.2)).bind fun r2 =>
 bif decide (r2 ≥ 0) then
 some ((true, []), false)
else 
(spec_l19Real p (r1.1, r1.2)).bind fun r3 =>
 some ((r3.1, r3.2), true) := Eq.trans (inf_call_eq (H := H) 26 (p, (v, path))) (by kernel_rfl)
theorem impl_isWide_eq (n : Int) : impl_isWide n =
 bif decide (n ≥ 1) then
 some (decide (n ≤ 64))
else 
 some false := Eq.trans (inf_call_eq (H := H) 275 n) (by kernel_rfl)
theorem impl_isVars_eq (n : Int) : impl_isVars n =
 bif decide (n ≥ 1) then
 some (decide (n ≤ 4))
else 
 some false := Eq.trans (inf_call_eq (H := H) 276 n) (by kernel_rfl)
theorem impl_operandsOf_eq (op : Int) : impl_operandsOf op =
 bif (op == 1) then
 some (0, (0, 1))
else 
 bif (op == 2) then
 some (0, (0, 1))
else 
 bif (op == 20) then
 some (0, (0, 2))
else 
 bif (op == 13) then
 some (1, (1, 1))
else 
 bif (op == 19) then
 some (1, (2, 2))
else 
 bif decide (op ≥ 3) then
 bif decide (op ≤ 12) then
 some (2, (1, 1))
else 
 bif decide (op ≥ 14) then
 bif decide (op ≤ 16) then
 some (2, (1, 2))
else 
 bif (op == 17) then
 some (2, (2, 2))
else 
 bif (op == 18) then
 some (2, (2, 2))
else 
 some (0, (0, 0))
else 
 bif (op == 17) then
 some (2, (2, 2))
else 
 bif (op == 18) then
 some (2, (2, 2))
else 
 some (0, (0, 0))
else 
 bif decide (op ≥ 14) then
 bif decide (op ≤ 16) then
 some (2, (1, 2))
else 
 bif (op == 17) then
 some (2, (2, 2))
else 
 bif (op == 18) then
 some (2, (2, 2))
else 
 some (0, (0, 0))
else 
 bif (op == 17) then
 some (2, (2, 2))
else 
 bif (op == 18) then
 some (2, (2, 2))
else 
 some (0, (0, 0)) := Eq.trans (inf_call_eq (H := H) 334 op) (by kernel_rfl)
theorem impl_mask_eq (wide : Int) : impl_mask wide =
 bif decide ((IntKind.i64.wrap (64 - wide)) < 0) then
 none
else 
 some (bShr .u64 18446744073709551615 (IntKind.i64.wrap (64 - wide))) := Eq.trans (inf_call_eq (H := H) 183 wide) (by kernel_rfl)
theorem impl_GoodWord_eq (wide : Int) (a : Int) : impl_GoodWord wide a =
(impl_isWide wide).bind fun r =>
 bif r then
(impl_mask wide).bind fun r1 =>
 some (decide (a ≤ r1))
else 
 some false := Eq.trans (inf_call_eq (H := H) 364 (wide, a)) (by kernel_rfl)
theorem impl_isLeafRight_eq (wide : Int) (vars : Int) (x : DNode) : impl_isLeafRight wide vars x =
 bif (x.1 == 1) then
(impl_GoodWord wide x.2).bind fun r =>
 some r
else 
 bif (x.1 == 2) then
 some (decide (x.2 < (IntKind.u64.wrap vars)))
else 
 bif (x.1 == 20) then
 some (decide (x.2 ≤ 1))
else 
 some (x.2 == 0) := Eq.trans (inf_call_eq (H := H) 335 (wide, (vars, x))) (by kernel_rfl)
theorem impl_GoodTerm_1_eq (own : Int) (a1 : Int) : impl_GoodTerm_1 own a1 =
 some (own != a1) := Eq.trans (inf_call_eq (H := H) 336 (own, a1)) (by kernel_rfl)
theorem slices_IndexFunc_int_by_GoodTerm_1_L0_eq (s : Bool × List Int) (f : Int × Unit) (t7 : Int) (t8 : Int) : slices_IndexFunc_int_by_GoodTerm_1_L0 s f t7 t8 =
 bif decide (t8 < t7) then
 bif decide (0 ≤ t8) then
 bif decide (t8 < (s.2.length : Int)) then
(impl_GoodTerm_1 (s.2.getD (Int.toNat t8) 0) f.1).bind fun r =>
 bif r then
 some (.inl t8)
else 
(slices_IndexFunc_int_by_GoodTerm_1_L0 s f t7 (IntKind.i64.wrap (t8 + 1))).bind fun r => some r
else none
else none
else 
 some (.inr ()) := Eq.trans (inf_loop_eq (H := H) 152 0 (loopCode Tryz.f152 0) (s, (f, (t7, t8))) key_slices_IndexFunc_int_by_GoodTerm_1) (by kernel_rfl)
theorem slices_IndexFunc_int_by_GoodTerm_1_eq (s : Bool × List Int) (f : Int × Unit) : slices_IndexFunc_int_by_GoodTerm_1 s f =
(slices_IndexFunc_int_by_GoodTerm_1_L0 s f (s.2.length : Int) 0).bind fun r =>
 match r with
| .inl y =>
 some y
| .inr z =>
 some (-1) := Eq.trans (inf_call_eq (H := H) 152 (s, f)) (by kernel_rfl)
theorem slices_ContainsFunc_int_by_GoodTerm_1_eq (s : Bool × List Int) (f : Int × Unit) : slices_ContainsFunc_int_by_GoodTerm_1 s f =
(slices_IndexFunc_int_by_GoodTerm_1 s f).bind fun r =>
 some (decide (r ≥ 0)) := Eq.trans (inf_call_eq (H := H) 144 (s, f)) (by kernel_rfl)
theorem impl_GoodTerm_L0_eq (wide : Int) (vars : Int) (stack : Bool × List Int) (t33 : Bool × List DNode) (t34 : Int) (t35 : Int) : impl_GoodTerm_L0 wide vars stack t33 t34 t35 =
 bif decide (t35 < t34) then
 bif decide (0 ≤ t35) then
 bif decide (t35 < (t33.2.length : Int)) then
(impl_operandsOf ((t33.2.getD (Int.toNat t35) (0, 0)).1)).bind fun r =>
 bif (r.2.2 == 0) then
 some (.inl false)
else 
(impl_isLeafRight wide vars (t33.2.getD (Int.toNat t35) (0, 0))).bind fun r1 =>
 bif !r1 then
 some (.inl false)
else 
 bif decide ((IntKind.i64.wrap ((stack.2.length : Int) - r.1)) < 0) then
 some (.inl false)
else 
 bif decide (0 ≤ (IntKind.i64.wrap ((stack.2.length : Int) - r.1))) then
 bif decide ((IntKind.i64.wrap ((stack.2.length : Int) - r.1)) ≤ (stack.2.length : Int)) then
(slices_ContainsFunc_int_by_GoodTerm_1 (stack.1, ((stack.2.take stack.2.length).drop (Int.toNat (IntKind.i64.wrap ((stack.2.length : Int) - r.1))))) (r.2.1, ())).bind fun r2 =>
 bif r2 then
 some (.inl false)
else 
 bif decide (0 ≤ (IntKind.i64.wrap ((stack.2.length : Int) - r.1))) then
 bif decide ((IntKind.i64.wrap ((stack.2.length : Int) - r.1)) ≤ (stack.2.length : Int)) then
 bif decide (((stack.2.take (Int.toNat (IntKind.i64.wrap ((stack.2.length : Int) - r.1)))).drop 0).length + [r.2.2].length ≤ lim) then
(impl_GoodTerm_L0 wide vars ((stack.1 && false), (((stack.2.take (Int.toNat (IntKind.i64.wrap ((stack.2.length : Int) - r.1)))).drop 0) ++ [r.2.2])) t33 t34 (IntKind.i64.wrap (t35 + 1))).bind fun r => some r
else none
else none
else none
else none
else none
else none
else none
else 
 some (.inr (stack.1, stack.2)) := Eq.trans (inf_loop_eq (H := H) 284 0 (loopCode Tryz.f284 0) (wide, (vars, (stack, (t33, (t34, t35))))) key_impl_GoodTerm) (by kernel_rfl)
theorem impl_GoodTerm_eq (wide : Int) (vars : Int) (t : Bool × List DNode) : impl_GoodTerm wide vars t =
(impl_isWide wide).bind fun r =>
 bif !r then
 some false
else 
(impl_isVars vars).bind fun r1 =>
 bif !r1 then
 some false
else 
 bif decide ((t.2.length : Int) < 1) then
 some false
else 
 bif decide ((t.2.length : Int) > 48) then
 some false
else 
(impl_GoodTerm_L0 wide vars (false, []) t (t.2.length : Int) 0).bind fun r2 =>
 match r2 with
| .inl y =>
 some y
| .inr z =>
 some ((z.2.length : Int) == 1) := Eq.trans (inf_call_eq (H := H) 284 (wide, (vars, t))) (by kernel_rfl)
theorem impl_kindOf_eq (t : Bool × List DNode) : impl_kindOf t =
 bif decide (0 ≤ (IntKind.i64.wrap ((t.2.length : Int) - 1))) then
 bif decide ((IntKind.i64.wrap ((t.2.length : Int) - 1)) < (t.2.length : Int)) then
(impl_operandsOf ((t.2.getD (Int.toNat (IntKind.i64.wrap ((t.2.length : Int) - 1))) (0, 0)).1)).bind fun r =>
 some r.2.2
else none
else none := Eq.trans (inf_call_eq (H := H) 285 t) (by kernel_rfl)
theorem impl_isTermOf_eq (wide : Int) (vars : Int) (t : Bool × List DNode) (kind : Int) : impl_isTermOf wide vars t kind =
(impl_GoodTerm wide vars t).bind fun r =>
 bif r then
(impl_kindOf t).bind fun r1 =>
 some (r1 == kind)
else 
 some false := Eq.trans (inf_call_eq (H := H) 208 (wide, (vars, (t, kind)))) (by kernel_rfl)
theorem impl_Program_isCondition_eq (p : DProgram) (t : Bool × List DNode) : impl_Program_isCondition p t =
(impl_isTermOf p.1 p.2.1 t 2).bind fun r =>
 some r := Eq.trans (inf_call_eq (H := H) 129 (p, t)) (by kernel_rfl)
theorem impl_Program_isCommand_L0_eq (p : DProgram) (c : DCommand) (t13 : Bool × List DChange) (t14 : Int) (t15 : Int) : impl_Program_isCommand_L0 p c t13 t14 t15 =
 bif decide (t15 < t14) then
 bif decide (0 ≤ t15) then
 bif decide (t15 < (t13.2.length : Int)) then
 bif decide (((t13.2.getD (Int.toNat t15) (0, (true, []))).1) < 0) then
 some (.inl false)
else 
 bif decide (((t13.2.getD (Int.toNat t15) (0, (true, []))).1) ≥ p.2.1) then
 some (.inl false)
else 
 bif decide (t15 > 0) then
 bif decide (0 ≤ (IntKind.i64.wrap (t15 - 1))) then
 bif decide ((IntKind.i64.wrap (t15 - 1)) < (c.2.2.length : Int)) then
 bif decide (((c.2.2.getD (Int.toNat (IntKind.i64.wrap (t15 - 1))) (0, (true, []))).1) ≥ ((t13.2.getD (Int.toNat t15) (0, (true, []))).1)) then
 some (.inl false)
else 
(impl_isTermOf p.1 p.2.1 ((t13.2.getD (Int.toNat t15) (0, (true, []))).2) 1).bind fun r =>
 bif !r then
 some (.inl false)
else 
(impl_Program_isCommand_L0 p c t13 t14 (IntKind.i64.wrap (t15 + 1))).bind fun r => some r
else none
else none
else 
(impl_isTermOf p.1 p.2.1 ((t13.2.getD (Int.toNat t15) (0, (true, []))).2) 1).bind fun r1 =>
 bif !r1 then
 some (.inl false)
else 
(impl_Program_isCommand_L0 p c t13 t14 (IntKind.i64.wrap (t15 + 1))).bind fun r => some r
else none
else none
else 
 some (.inr ()) := Eq.trans (inf_loop_eq (H := H) 279 0 (loopCode Tryz.f279 0) (p, (c, (t13, (t14, t15)))) key_impl_Program_isCommand) (by kernel_rfl)
theorem impl_Program_isCommand_eq (p : DProgram) (c : DCommand) : impl_Program_isCommand p c =
(impl_Program_isCondition p c.1).bind fun r =>
 bif !r then
 some false
else 
(impl_Program_isCommand_L0 p c c.2 (c.2.2.length : Int) 0).bind fun r1 =>
 match r1 with
| .inl y =>
 some y
| .inr z =>
 some true := Eq.trans (inf_call_eq (H := H) 279 (p, c)) (by kernel_rfl)
theorem impl_GoodProgram_1_eq (c : DCommand) (a1 : DProgram) : impl_GoodProgram_1 c a1 =
(impl_Program_isCommand a1 c).bind fun r =>
 some (!r) := Eq.trans (inf_call_eq (H := H) 278 (c, a1)) (by kernel_rfl)
theorem slices_IndexFunc_Command_by_GoodProgram_1_L0_eq (s : Bool × List DCommand) (f : DProgram × Unit) (t7 : Int) (t8 : Int) : slices_IndexFunc_Command_by_GoodProgram_1_L0 s f t7 t8 =
 bif decide (t8 < t7) then
 bif decide (0 ≤ t8) then
 bif decide (t8 < (s.2.length : Int)) then
(impl_GoodProgram_1 (s.2.getD (Int.toNat t8) ((true, []), (true, []))) f.1).bind fun r =>
 bif r then
 some (.inl t8)
else 
(slices_IndexFunc_Command_by_GoodProgram_1_L0 s f t7 (IntKind.i64.wrap (t8 + 1))).bind fun r => some r
else none
else none
else 
 some (.inr ()) := Eq.trans (inf_loop_eq (H := H) 331 0 (loopCode Tryz.f331 0) (s, (f, (t7, t8))) key_slices_IndexFunc_Command_by_GoodProgram_1) (by kernel_rfl)
theorem slices_IndexFunc_Command_by_GoodProgram_1_eq (s : Bool × List DCommand) (f : DProgram × Unit) : slices_IndexFunc_Command_by_GoodProgram_1 s f =
(slices_IndexFunc_Command_by_GoodProgram_1_L0 s f (s.2.length : Int) 0).bind fun r =>
 match r with
| .inl y =>
 some y
| .inr z =>
 some (-1) := Eq.trans (inf_call_eq (H := H) 331 (s, f)) (by kernel_rfl)
theorem slices_ContainsFunc_Command_by_GoodProgram_1_eq (s : Bool × List DCommand) (f : DProgram × Unit) : slices_ContainsFunc_Command_by_GoodProgram_1 s f =
(slices_IndexFunc_Command_by_GoodProgram_1 s f).bind fun r =>
 some (decide (r ≥ 0)) := Eq.trans (inf_call_eq (H := H) 277 (s, f)) (by kernel_rfl)
theorem impl_GoodProgram_eq (p : DProgram) : impl_GoodProgram p =
(impl_isWide p.1).bind fun r =>
 bif !r then
 some false
else 
(impl_isVars p.2.1).bind fun r1 =>
 bif !r1 then
 some false
else 
(impl_Program_isCondition p p.2.2.1).bind fun r2 =>
 bif !r2 then
 some false
else 
 bif decide ((p.2.2.2.2.length : Int) < 1) then
 some false
else 
 bif decide ((p.2.2.2.2.length : Int) > 6) then
 some false
else 
(slices_ContainsFunc_Command_by_GoodProgram_1 p.2.2.2 (p, ())).bind fun r3 =>
 some (!r3) := Eq.trans (inf_call_eq (H := H) 204 p) (by kernel_rfl)
theorem impl_isSmall_eq (p : DProgram) : impl_isSmall p =
(impl_GoodProgram p).bind fun r =>
 bif r then
 some (decide ((IntKind.i64.wrap (p.1 * p.2.1)) ≤ 5))
else 
 some false := Eq.trans (inf_call_eq (H := H) 125 p) (by kernel_rfl)
theorem impl_Program_states_eq (p : DProgram) : impl_Program_states p =
 bif decide ((IntKind.i64.wrap (p.1 * p.2.1)) < 0) then
 none
else 
 some (bShl .i64 1 (IntKind.i64.wrap (p.1 * p.2.1))) := Eq.trans (inf_call_eq (H := H) 131 p) (by kernel_rfl)
theorem impl_isSight_L0_eq (states : Int) (v : DSight) (classes : Int) (t9 : Bool × List Int) (t10 : Int) (t11 : Int) : impl_isSight_L0 states v classes t9 t10 t11 =
 bif decide (t11 < t10) then
 bif decide (0 ≤ t11) then
 bif decide (t11 < (t9.2.length : Int)) then
 bif decide ((t9.2.getD (Int.toNat t11) 0) < 0) then
 some (.inl false)
else 
 bif decide ((t9.2.getD (Int.toNat t11) 0) > classes) then
 some (.inl false)
else 
 bif ((t9.2.getD (Int.toNat t11) 0) == classes) then
(impl_isSight_L0 states v (IntKind.i64.wrap (classes + 1)) t9 t10 (IntKind.i64.wrap (t11 + 1))).bind fun r => some r
else 
(impl_isSight_L0 states v classes t9 t10 (IntKind.i64.wrap (t11 + 1))).bind fun r => some r
else none
else none
else 
 some (.inr ()) := Eq.trans (inf_loop_eq (H := H) 218 0 (loopCode Tryz.f218 0) (states, (v, (classes, (t9, (t10, t11))))) key_impl_isSight) (by kernel_rfl)
theorem impl_isSight_eq (v : DSight) (states : Int) : impl_isSight v states =
(impl_isSight_L0 states v 0 v (v.2.length : Int) 0).bind fun r =>
 match r with
| .inl y =>
 some y
| .inr z =>
 some ((v.2.length : Int) == states) := Eq.trans (inf_call_eq (H := H) 218 (v, states)) (by kernel_rfl)
theorem impl_GoodSight_eq (p : DProgram) (v : DSight) : impl_GoodSight p v =
(impl_isSmall p).bind fun r =>
 bif r then
(impl_Program_states p).bind fun r1 =>
(impl_isSight v r1).bind fun r2 =>
 some r2
else 
 some false := Eq.trans (inf_call_eq (H := H) 142 (p, v)) (by kernel_rfl)
theorem slices_Max_int_L0_eq (x : Bool × List Int) (m : Int) (i : Int) : slices_Max_int_L0 x m i =
 bif decide (i < (x.2.length : Int)) then
 bif decide (0 ≤ i) then
 bif decide (i < (x.2.length : Int)) then
(slices_Max_int_L0 x (bif decide (m < (x.2.getD (Int.toNat i) 0)) then (x.2.getD (Int.toNat i) 0) else m) (IntKind.i64.wrap (i + 1))).bind fun r => some r
else none
else none
else 
 some m := Eq.trans (inf_loop_eq (H := H) 219 0 (loopCode Tryz.f219 0) (x, (m, i)) key_slices_Max_int) (by kernel_rfl)
theorem slices_Max_int_eq (x : Bool × List Int) : slices_Max_int x =
 bif decide ((x.2.length : Int) < 1) then
 none
else 
 bif decide (0 < (x.2.length : Int)) then
(slices_Max_int_L0 x (x.2.getD 0 0) 1).bind fun r =>
 some r
else none := Eq.trans (inf_call_eq (H := H) 219 x) (by kernel_rfl)
theorem impl_Sight_classes_eq (v : DSight) : impl_Sight_classes v =
(slices_Max_int v).bind fun r =>
 some (IntKind.i64.wrap (r + 1)) := Eq.trans (inf_call_eq (H := H) 143 v) (by kernel_rfl)
theorem impl_isClassPath_1_eq (class_ : Int) (a1 : Int) : impl_isClassPath_1 class_ a1 =
 bif decide (class_ < 0) then
 some true
else 
 some (decide (class_ ≥ a1)) := Eq.trans (inf_call_eq (H := H) 145 (class_, a1)) (by kernel_rfl)
theorem slices_IndexFunc_int_by_isClassPath_1_L0_eq (s : Bool × List Int) (f : Int × Unit) (t7 : Int) (t8 : Int) : slices_IndexFunc_int_by_isClassPath_1_L0 s f t7 t8 =
 bif decide (t8 < t7) then
 bif decide (0 ≤ t8) then
 bif decide (t8 < (s.2.length : Int)) then
(impl_isClassPath_1 (s.2.getD (Int.toNat t8) 0) f.1).bind fun r =>
 bif r then
 some (.inl t8)
else 
(slices_IndexFunc_int_by_isClassPath_1_L0 s f t7 (IntKind.i64.wrap (t8 + 1))).bind fun r => some r
else none
else none
else 
 some (.inr ()) := Eq.trans (inf_loop_eq (H := H) 10085 0 (loopCode Tryz.f152 0) (s, (f, (t7, t8))) key_slices_IndexFunc_int_by_isClassPath_1) (by kernel_rfl)
theorem slices_IndexFunc_int_by_isClassPath_1_eq (s : Bool × List Int) (f : Int × Unit) : slices_IndexFunc_int_by_isClassPath_1 s f =
(slices_IndexFunc_int_by_isClassPath_1_L0 s f (s.2.length : Int) 0).bind fun r =>
 match r with
| .inl y =>
 some y
| .inr z =>
 some (-1) := Eq.trans (inf_call_eq (H := H) 10085 (s, f)) (by kernel_rfl)
theorem slices_ContainsFunc_int_by_isClassPath_1_eq (s : Bool × List Int) (f : Int × Unit) : slices_ContainsFunc_int_by_isClassPath_1 s f =
(slices_IndexFunc_int_by_isClassPath_1 s f).bind fun r =>
 some (decide (r ≥ 0)) := Eq.trans (inf_call_eq (H := H) 10084 (s, f)) (by kernel_rfl)
theorem impl_isClassPath_eq (p : DProgram) (v : DSight) (path : Bool × List Int) (most : Int) : impl_isClassPath p v path most =
(impl_GoodSight p v).bind fun r =>
 bif !r then
 some false
else 
 bif decide ((path.2.length : Int) < 1) then
 some false
else 
 bif decide ((path.2.length : Int) > most) then
 some false
else 
(impl_Sight_classes v).bind fun r1 =>
(slices_ContainsFunc_int_by_isClassPath_1 path (r1, ())).bind fun r2 =>
 some (!r2) := Eq.trans (inf_call_eq (H := H) 76 (p, (v, (path, most)))) (by kernel_rfl)
theorem impl_Program_stateOf_L0_eq (no : Int) (p : DProgram) (out : Bool × List Int) (t9 : Int) (t10 : Int) : impl_Program_stateOf_L0 no p out t9 t10 =
 bif decide (t10 < t9) then
 bif decide ((IntKind.i64.wrap (p.1 * t10)) < 0) then
 none
else 
(impl_mask p.1).bind fun r =>
 bif decide (out.2.length + [bAnd .u64 (bShr .u64 (IntKind.u64.wrap no) (IntKind.i64.wrap (p.1 * t10))) r].length ≤ lim) then
(impl_Program_stateOf_L0 no p ((out.1 && false), (out.2 ++ [bAnd .u64 (bShr .u64 (IntKind.u64.wrap no) (IntKind.i64.wrap (p.1 * t10))) r])) t9 (IntKind.i64.wrap (t10 + 1))).bind fun r => some r
else none
else 
 some (out.1, out.2) := Eq.trans (inf_loop_eq (H := H) 106 0 (loopCode Tryz.f106 0) (no, (p, (out, (t9, t10)))) key_impl_Program_stateOf) (by kernel_rfl)
theorem impl_Program_stateOf_eq (p : DProgram) (no : Int) : impl_Program_stateOf p no =
(impl_Program_stateOf_L0 no p (false, []) p.2.1 0).bind fun r =>
 some (r.1, r.2) := Eq.trans (inf_call_eq (H := H) 106 (p, no)) (by kernel_rfl)
theorem impl_areWords_eq (wide : Int) (a : Int) (b : Int) : impl_areWords wide a b =
(impl_GoodWord wide a).bind fun r =>
 bif r then
(impl_GoodWord wide b).bind fun r1 =>
 some r1
else 
 some false := Eq.trans (inf_call_eq (H := H) 347 (wide, (a, b))) (by kernel_rfl)
theorem bits_Div64_eq (hi : Int) (lo : Int) (y : Int) : bits_Div64 hi lo y =
 bif (y == 0) then
 none
else 
 bif decide (y ≤ hi) then
 none
else 
 bif (hi == 0) then
 bif (y == 0) then
 none
else 
 bif (y == 0) then
 none
else 
 some (IntKind.u64.wrap (Int.tdiv lo y), Int.tmod lo y)
else none := Eq.trans (inf_call_eq (H := H) 348 (hi, (lo, y))) (by kernel_rfl)
theorem impl_DivWord_eq (wide : Int) (a : Int) (b : Int) : impl_DivWord wide a b =
(impl_areWords wide a b).bind fun r =>
 bif !r then
 some (0, (0, false))
else 
 bif (b == 0) then
(impl_mask wide).bind fun r1 =>
 some (r1, (a, true))
else 
(bits_Div64 0 a b).bind fun r2 =>
 some (r2.1, (r2.2, true)) := Eq.trans (inf_call_eq (H := H) 311 (wide, (a, b))) (by kernel_rfl)
theorem impl_shift_eq (wide : Int) (a : Int) (by_ : Int) (left_ : Bool) : impl_shift wide a by_ left_ =
 bif decide (by_ ≥ (IntKind.u64.wrap wide)) then
 some 0
else 
 bif left_ then
 bif decide (by_ < 0) then
 none
else 
(impl_mask wide).bind fun r =>
 some (bAnd .u64 (bShl .u64 a by_) r)
else 
 bif decide (by_ < 0) then
 none
else 
 some (bShr .u64 a by_) := Eq.trans (inf_call_eq (H := H) 312 (wide, (a, (by_, left_)))) (by kernel_rfl)
theorem impl_truth_eq (holds : Bool) : impl_truth holds =
 bif holds then
 some 1
else 
 some 0 := Eq.trans (inf_call_eq (H := H) 313 holds) (by kernel_rfl)
theorem impl_signed_eq (wide : Int) (a : Int) : impl_signed wide a =
 bif decide ((IntKind.i64.wrap (64 - wide)) < 0) then
 none
else 
 bif decide ((IntKind.i64.wrap (64 - wide)) < 0) then
 none
else 
 some (bShr .i64 (IntKind.i64.wrap (bShl .u64 a (IntKind.i64.wrap (64 - wide)))) (IntKind.i64.wrap (64 - wide))) := Eq.trans (inf_call_eq (H := H) 314 (wide, a)) (by kernel_rfl)
theorem impl_apply_eq (wide : Int) (op : Int) (a : Int) (b : Int) : impl_apply wide op a b =
 bif (op == 3) then
(impl_mask wide).bind fun r =>
 some (bAnd .u64 (IntKind.u64.wrap (a + b)) r)
else 
 bif (op == 4) then
(impl_mask wide).bind fun r1 =>
 some (bAnd .u64 (IntKind.u64.wrap (a - b)) r1)
else 
 bif (op == 5) then
(impl_mask wide).bind fun r2 =>
 some (bAnd .u64 (IntKind.u64.wrap (a * b)) r2)
else 
 bif (op == 6) then
(impl_DivWord wide a b).bind fun r3 =>
(impl_mask wide).bind fun r4 =>
 some (bAnd .u64 r3.1 r4)
else 
 bif (op == 7) then
(impl_DivWord wide a b).bind fun r5 =>
(impl_mask wide).bind fun r6 =>
 some (bAnd .u64 r5.2.1 r6)
else 
 bif (op == 8) then
 bif (op == 8) then
(impl_mask wide).bind fun r7 =>
 some (bAnd .u64 (bAnd .u64 a b) r7)
else 
 bif (op == 9) then
 bif (op == 9) then
(impl_mask wide).bind fun r8 =>
 some (bAnd .u64 (bOr .u64 a b) r8)
else 
 bif (op == 10) then
(impl_mask wide).bind fun r9 =>
 some (bAnd .u64 (bXor .u64 a b) r9)
else 
 bif (op == 11) then
 bif (op == 11) then
(impl_shift wide a b (op == 11)).bind fun r10 =>
(impl_mask wide).bind fun r11 =>
 some (bAnd .u64 r10 r11)
else 
 bif (op == 14) then
(impl_truth (a == b)).bind fun r12 =>
(impl_mask wide).bind fun r13 =>
 some (bAnd .u64 r12 r13)
else 
 bif (op == 15) then
(impl_truth (decide (a < b))).bind fun r14 =>
(impl_mask wide).bind fun r15 =>
 some (bAnd .u64 r14 r15)
else 
 bif (op == 16) then
(impl_signed wide a).bind fun r16 =>
(impl_signed wide b).bind fun r17 =>
(impl_truth (decide (r16 < r17))).bind fun r18 =>
(impl_mask wide).bind fun r19 =>
 some (bAnd .u64 r18 r19)
else 
(impl_mask wide).bind fun r20 =>
 some (bAnd .u64 0 r20)
else 
 bif (op == 12) then
(impl_shift wide a b (op == 11)).bind fun r21 =>
(impl_mask wide).bind fun r22 =>
 some (bAnd .u64 r21 r22)
else 
 bif (op == 14) then
(impl_truth (a == b)).bind fun r23 =>
(impl_mask wide).bind fun r24 =>
 some (bAnd .u64 r23 r24)
else 
 bif (op == 15) then
(impl_truth (decide (a < b))).bind fun r25 =>
(impl_mask wide).bind fun r26 =>
 some (bAnd .u64 r25 r26)
else 
 bif (op == 16) then
(impl_signed wide a).bind fun r27 =>
(impl_signed wide b).bind fun r28 =>
(impl_truth (decide (r27 < r28))).bind fun r29 =>
(impl_mask wide).bind fun r30 =>
 some (bAnd .u64 r29 r30)
else 
(impl_mask wide).bind fun r31 =>
 some (bAnd .u64 0 r31)
else 
 bif (op == 18) then
(impl_mask wide).bind fun r32 =>
 some (bAnd .u64 (bOr .u64 a b) r32)
else 
 bif (op == 10) then
(impl_mask wide).bind fun r33 =>
 some (bAnd .u64 (bXor .u64 a b) r33)
else 
 bif (op == 11) then
 bif (op == 11) then
(impl_shift wide a b (op == 11)).bind fun r34 =>
(impl_mask wide).bind fun r35 =>
 some (bAnd .u64 r34 r35)
else 
 bif (op == 14) then
(impl_truth (a == b)).bind fun r36 =>
(impl_mask wide).bind fun r37 =>
 some (bAnd .u64 r36 r37)
else 
 bif (op == 15) then
(impl_truth (decide (a < b))).bind fun r38 =>
(impl_mask wide).bind fun r39 =>
 some (bAnd .u64 r38 r39)
else 
 bif (op == 16) then
(impl_signed wide a).bind fun r40 =>
(impl_signed wide b).bind fun r41 =>
(impl_truth (decide (r40 < r41))).bind fun r42 =>
(impl_mask wide).bind fun r43 =>
 some (bAnd .u64 r42 r43)
else 
(impl_mask wide).bind fun r44 =>
 some (bAnd .u64 0 r44)
else 
 bif (op == 12) then
(impl_shift wide a b (op == 11)).bind fun r45 =>
(impl_mask wide).bind fun r46 =>
 some (bAnd .u64 r45 r46)
else 
 bif (op == 14) then
(impl_truth (a == b)).bind fun r47 =>
(impl_mask wide).bind fun r48 =>
 some (bAnd .u64 r47 r48)
else 
 bif (op == 15) then
(impl_truth (decide (a < b))).bind fun r49 =>
(impl_mask wide).bind fun r50 =>
 some (bAnd .u64 r49 r50)
else 
 bif (op == 16) then
(impl_signed wide a).bind fun r51 =>
(impl_signed wide b).bind fun r52 =>
(impl_truth (decide (r51 < r52))).bind fun r53 =>
(impl_mask wide).bind fun r54 =>
 some (bAnd .u64 r53 r54)
else 
(impl_mask wide).bind fun r55 =>
 some (bAnd .u64 0 r55)
else 
 bif (op == 17) then
(impl_mask wide).bind fun r56 =>
 some (bAnd .u64 (bAnd .u64 a b) r56)
else 
 bif (op == 9) then
 bif (op == 9) then
(impl_mask wide).bind fun r57 =>
 some (bAnd .u64 (bOr .u64 a b) r57)
else 
 bif (op == 10) then
(impl_mask wide).bind fun r58 =>
 some (bAnd .u64 (bXor .u64 a b) r58)
else 
 bif (op == 11) then
 bif (op == 11) then
(impl_shift wide a b (op == 11)).bind fun r59 =>
(impl_mask wide).bind fun r60 =>
 some (bAnd .u64 r59 r60)
else 
 bif (op == 14) then
(impl_truth (a == b)).bind fun r61 =>
(impl_mask wide).bind fun r62 =>
 some (bAnd .u64 r61 r62)
else 
 bif (op == 15) then
(impl_truth (decide (a < b))).bind fun r63 =>
(impl_mask wide).bind fun r64 =>
 some (bAnd .u64 r63 r64)
else 
 bif (op == 16) then
(impl_signed wide a).bind fun r65 =>
(impl_signed wide b).bind fun r66 =>
(impl_truth (decide (r65 < r66))).bind fun r67 =>
(impl_mask wide).bind fun r68 =>
 some (bAnd .u64 r67 r68)
else 
(impl_mask wide).bind fun r69 =>
 some (bAnd .u64 0 r69)
else 
 bif (op == 12) then
(impl_shift wide a b (op == 11)).bind fun r70 =>
(impl_mask wide).bind fun r71 =>
 some (bAnd .u64 r70 r71)
else 
 bif (op == 14) then
(impl_truth (a == b)).bind fun r72 =>
(impl_mask wide).bind fun r73 =>
 some (bAnd .u64 r72 r73)
else 
 bif (op == 15) then
(impl_truth (decide (a < b))).bind fun r74 =>
(impl_mask wide).bind fun r75 =>
 some (bAnd .u64 r74 r75)
else 
 bif (op == 16) then
(impl_signed wide a).bind fun r76 =>
(impl_signed wide b).bind fun r77 =>
(impl_truth (decide (r76 < r77))).bind fun r78 =>
(impl_mask wide).bind fun r79 =>
 some (bAnd .u64 r78 r79)
else 
(impl_mask wide).bind fun r80 =>
 some (bAnd .u64 0 r80)
else 
 bif (op == 18) then
(impl_mask wide).bind fun r81 =>
 some (bAnd .u64 (bOr .u64 a b) r81)
else 
 bif (op == 10) then
(impl_mask wide).bind fun r82 =>
 some (bAnd .u64 (bXor .u64 a b) r82)
else 
 bif (op == 11) then
 bif (op == 11) then
(impl_shift wide a b (op == 11)).bind fun r83 =>
(impl_mask wide).bind fun r84 =>
 some (bAnd .u64 r83 r84)
else 
 bif (op == 14) then
(impl_truth (a == b)).bind fun r85 =>
(impl_mask wide).bind fun r86 =>
 some (bAnd .u64 r85 r86)
else 
 bif (op == 15) then
(impl_truth (decide (a < b))).bind fun r87 =>
(impl_mask wide).bind fun r88 =>
 some (bAnd .u64 r87 r88)
else 
 bif (op == 16) then
(impl_signed wide a).bind fun r89 =>
(impl_signed wide b).bind fun r90 =>
(impl_truth (decide (r89 < r90))).bind fun r91 =>
(impl_mask wide).bind fun r92 =>
 some (bAnd .u64 r91 r92)
else 
(impl_mask wide).bind fun r93 =>
 some (bAnd .u64 0 r93)
else 
 bif (op == 12) then
(impl_shift wide a b (op == 11)).bind fun r94 =>
(impl_mask wide).bind fun r95 =>
 some (bAnd .u64 r94 r95)
else 
 bif (op == 14) then
(impl_truth (a == b)).bind fun r96 =>
(impl_mask wide).bind fun r97 =>
 some (bAnd .u64 r96 r97)
else 
 bif (op == 15) then
(impl_truth (decide (a < b))).bind fun r98 =>
(impl_mask wide).bind fun r99 =>
 some (bAnd .u64 r98 r99)
else 
 bif (op == 16) then
(impl_signed wide a).bind fun r100 =>
(impl_signed wide b).bind fun r101 =>
(impl_truth (decide (r100 < r101))).bind fun r102 =>
(impl_mask wide).bind fun r103 =>
 some (bAnd .u64 r102 r103)
else 
(impl_mask wide).bind fun r104 =>
 some (bAnd .u64 0 r104) := Eq.trans (inf_call_eq (H := H) 243 (wide, (op, (a, b)))) (by kernel_rfl)
theorem impl_valueOf_L0_eq (wide : Int) (state : Bool × List Int) (stack : Bool × List Int) (t12 : Bool × List DNode) (t13 : Int) (t14 : Int) : impl_valueOf_L0 wide state stack t12 t13 t14 =
 bif decide (t14 < t13) then
 bif decide (0 ≤ t14) then
 bif decide (t14 < (t12.2.length : Int)) then
 bif (((t12.2.getD (Int.toNat t14) (0, 0)).1) == 1) then
 bif (((t12.2.getD (Int.toNat t14) (0, 0)).1) == 1) then
 bif decide (stack.2.length + [(t12.2.getD (Int.toNat t14) (0, 0)).2].length ≤ lim) then
(impl_valueOf_L0 wide state ((stack.1 && false), (stack.2 ++ [(t12.2.getD (Int.toNat t14) (0, 0)).2])) t12 t13 (IntKind.i64.wrap (t14 + 1))).bind fun r => some r
else none
else 
 bif (((t12.2.getD (Int.toNat t14) (0, 0)).1) == 2) then
 bif decide (0 ≤ ((t12.2.getD (Int.toNat t14) (0, 0)).2)) then
 bif decide (((t12.2.getD (Int.toNat t14) (0, 0)).2) < (state.2.length : Int)) then
 bif decide (stack.2.length + [(state.2.getD (Int.toNat ((t12.2.getD (Int.toNat t14) (0, 0)).2)) 0)].length ≤ lim) then
(impl_valueOf_L0 wide state ((stack.1 && false), (stack.2 ++ [(state.2.getD (Int.toNat ((t12.2.getD (Int.toNat t14) (0, 0)).2)) 0)])) t12 t13 (IntKind.i64.wrap (t14 + 1))).bind fun r => some r
else none
else none
else none
else 
 bif (((t12.2.getD (Int.toNat t14) (0, 0)).1) == 13) then
 bif decide (0 ≤ (IntKind.i64.wrap ((stack.2.length : Int) - 1))) then
 bif decide ((IntKind.i64.wrap ((stack.2.length : Int) - 1)) < (stack.2.length : Int)) then
(impl_mask wide).bind fun r =>
 bif decide (0 ≤ (IntKind.i64.wrap ((stack.2.length : Int) - 1))) then
 bif decide ((IntKind.i64.wrap ((stack.2.length : Int) - 1)) < (stack.2.length : Int)) then
(impl_valueOf_L0 wide state (stack.1, (stack.2.set (Int.toNat (IntKind.i64.wrap ((stack.2.length : Int) - 1))) (bAnd .u64 (bXor .u64 18446744073709551615 (stack.2.getD (Int.toNat (IntKind.i64.wrap ((stack.2.length : Int) - 1))) 0)) r))) t12 t13 (IntKind.i64.wrap (t14 + 1))).bind fun r => some r
else none
else none
else none
else none
else 
 bif (((t12.2.getD (Int.toNat t14) (0, 0)).1) == 19) then
 bif decide (0 ≤ (IntKind.i64.wrap ((stack.2.length : Int) - 1))) then
 bif decide ((IntKind.i64.wrap ((stack.2.length : Int) - 1)) < (stack.2.length : Int)) then
 bif decide (0 ≤ (IntKind.i64.wrap ((stack.2.length : Int) - 1))) then
 bif decide ((IntKind.i64.wrap ((stack.2.length : Int) - 1)) < (stack.2.length : Int)) then
(impl_valueOf_L0 wide state (stack.1, (stack.2.set (Int.toNat (IntKind.i64.wrap ((stack.2.length : Int) - 1))) (IntKind.u64.wrap (1 - (stack.2.getD (Int.toNat (IntKind.i64.wrap ((stack.2.length : Int) - 1))) 0))))) t12 t13 (IntKind.i64.wrap (t14 + 1))).bind fun r => some r
else none
else none
else none
else none
else 
 bif decide (0 ≤ (IntKind.i64.wrap ((IntKind.i64.wrap ((stack.2.length : Int) - 1)) - 1))) then
 bif decide ((IntKind.i64.wrap ((IntKind.i64.wrap ((stack.2.length : Int) - 1)) - 1)) ≤ (stack.2.length : Int)) then
 bif decide (0 ≤ (IntKind.i64.wrap ((IntKind.i64.wrap ((stack.2.length : Int) - 1)) - 1))) then
 bif decide ((IntKind.i64.wrap ((IntKind.i64.wrap ((stack.2.length : Int) - 1)) - 1)) < (stack.2.length : Int)) then
 bif decide (0 ≤ (IntKind.i64.wrap ((stack.2.length : Int) - 1))) then
 bif decide ((IntKind.i64.wrap ((stack.2.length : Int) - 1)) < (stack.2.length : Int)) then
(impl_apply wide ((t12.2.getD (Int.toNat t14) (0, 0)).1) (stack.2.getD (Int.toNat (IntKind.i64.wrap ((IntKind.i64.wrap ((stack.2.length : Int) - 1)) - 1))) 0) (stack.2.getD (Int.toNat (IntKind.i64.wrap ((stack.2.length : Int) - 1))) 0)).bind fun r1 =>
 bif decide (((stack.2.take (Int.toNat (IntKind.i64.wrap ((IntKind.i64.wrap ((stack.2.length : Int) - 1)) - 1)))).drop 0).length + [r1].length ≤ lim) then
(impl_valueOf_L0 wide state ((stack.1 && false), (((stack.2.take (Int.toNat (IntKind.i64.wrap ((IntKind.i64.wrap ((stack.2.length : Int) - 1)) - 1)))).drop 0) ++ [r1])) t12 t13 (IntKind.i64.wrap (t14 + 1))).bind fun r => some r
else none
else none
else none
else none
else none
else none
else none
else 
 bif (((t12.2.getD (Int.toNat t14) (0, 0)).1) == 20) then
 bif decide (stack.2.length + [(t12.2.getD (Int.toNat t14) (0, 0)).2].length ≤ lim) then
(impl_valueOf_L0 wide state ((stack.1 && false), (stack.2 ++ [(t12.2.getD (Int.toNat t14) (0, 0)).2])) t12 t13 (IntKind.i64.wrap (t14 + 1))).bind fun r => some r
else none
else 
 bif (((t12.2.getD (Int.toNat t14) (0, 0)).1) == 2) then
 bif decide (0 ≤ ((t12.2.getD (Int.toNat t14) (0, 0)).2)) then
 bif decide (((t12.2.getD (Int.toNat t14) (0, 0)).2) < (state.2.length : Int)) then
 bif decide (stack.2.length + [(state.2.getD (Int.toNat ((t12.2.getD (Int.toNat t14) (0, 0)).2)) 0)].length ≤ lim) then
(impl_valueOf_L0 wide state ((stack.1 && false), (stack.2 ++ [(state.2.getD (Int.toNat ((t12.2.getD (Int.toNat t14) (0, 0)).2)) 0)])) t12 t13 (IntKind.i64.wrap (t14 + 1))).bind fun r => some r
else none
else none
else none
else 
 bif (((t12.2.getD (Int.toNat t14) (0, 0)).1) == 13) then
 bif decide (0 ≤ (IntKind.i64.wrap ((stack.2.length : Int) - 1))) then
 bif decide ((IntKind.i64.wrap ((stack.2.length : Int) - 1)) < (stack.2.length : Int)) then
(impl_mask wide).bind fun r2 =>
 bif decide (0 ≤ (IntKind.i64.wrap ((stack.2.length : Int) - 1))) then
 bif decide ((IntKind.i64.wrap ((stack.2.length : Int) - 1)) < (stack.2.length : Int)) then
(impl_valueOf_L0 wide state (stack.1, (stack.2.set (Int.toNat (IntKind.i64.wrap ((stack.2.length : Int) - 1))) (bAnd .u64 (bXor .u64 18446744073709551615 (stack.2.getD (Int.toNat (IntKind.i64.wrap ((stack.2.length : Int) - 1))) 0)) r2))) t12 t13 (IntKind.i64.wrap (t14 + 1))).bind fun r => some r
else none
else none
else none
else none
else 
 bif (((t12.2.getD (Int.toNat t14) (0, 0)).1) == 19) then
 bif decide (0 ≤ (IntKind.i64.wrap ((stack.2.length : Int) - 1))) then
 bif decide ((IntKind.i64.wrap ((stack.2.length : Int) - 1)) < (stack.2.length : Int)) then
 bif decide (0 ≤ (IntKind.i64.wrap ((stack.2.length : Int) - 1))) then
 bif decide ((IntKind.i64.wrap ((stack.2.length : Int) - 1)) < (stack.2.length : Int)) then
(impl_valueOf_L0 wide state (stack.1, (stack.2.set (Int.toNat (IntKind.i64.wrap ((stack.2.length : Int) - 1))) (IntKind.u64.wrap (1 - (stack.2.getD (Int.toNat (IntKind.i64.wrap ((stack.2.length : Int) - 1))) 0))))) t12 t13 (IntKind.i64.wrap (t14 + 1))).bind fun r => some r
else none
else none
else none
else none
else 
 bif decide (0 ≤ (IntKind.i64.wrap ((IntKind.i64.wrap ((stack.2.length : Int) - 1)) - 1))) then
 bif decide ((IntKind.i64.wrap ((IntKind.i64.wrap ((stack.2.length : Int) - 1)) - 1)) ≤ (stack.2.length : Int)) then
 bif decide (0 ≤ (IntKind.i64.wrap ((IntKind.i64.wrap ((stack.2.length : Int) - 1)) - 1))) then
 bif decide ((IntKind.i64.wrap ((IntKind.i64.wrap ((stack.2.length : Int) - 1)) - 1)) < (stack.2.length : Int)) then
 bif decide (0 ≤ (IntKind.i64.wrap ((stack.2.length : Int) - 1))) then
 bif decide ((IntKind.i64.wrap ((stack.2.length : Int) - 1)) < (stack.2.length : Int)) then
(impl_apply wide ((t12.2.getD (Int.toNat t14) (0, 0)).1) (stack.2.getD (Int.toNat (IntKind.i64.wrap ((IntKind.i64.wrap ((stack.2.length : Int) - 1)) - 1))) 0) (stack.2.getD (Int.toNat (IntKind.i64.wrap ((stack.2.length : Int) - 1))) 0)).bind fun r3 =>
 bif decide (((stack.2.take (Int.toNat (IntKind.i64.wrap ((IntKind.i64.wrap ((stack.2.length : Int) - 1)) - 1)))).drop 0).length + [r3].length ≤ lim) then
(impl_valueOf_L0 wide state ((stack.1 && false), (((stack.2.take (Int.toNat (IntKind.i64.wrap ((IntKind.i64.wrap ((stack.2.length : Int) - 1)) - 1)))).drop 0) ++ [r3])) t12 t13 (IntKind.i64.wrap (t14 + 1))).bind fun r => some r
else none
else none
else none
else none
else none
else none
else none
else none
else none
else 
 some (stack.1, stack.2) := Eq.trans (inf_loop_eq (H := H) 182 0 (loopCode Tryz.f182 0) (wide, (state, (stack, (t12, (t13, t14))))) key_impl_valueOf) (by kernel_rfl)
theorem impl_valueOf_eq (wide : Int) (t : Bool × List DNode) (state : Bool × List Int) : impl_valueOf wide t state =
(impl_valueOf_L0 wide state (false, []) t (t.2.length : Int) 0).bind fun r =>
 bif decide (0 < (r.2.length : Int)) then
 some (r.2.getD 0 0)
else none := Eq.trans (inf_call_eq (H := H) 182 (wide, (t, state))) (by kernel_rfl)
theorem impl_Program_holds_eq (p : DProgram) (t : Bool × List DNode) (s : Bool × List Int) : impl_Program_holds p t s =
(impl_valueOf p.1 t s).bind fun r =>
 some (r == 1) := Eq.trans (inf_call_eq (H := H) 105 (p, (t, s))) (by kernel_rfl)
theorem slices_Clone_uint64_eq (s : Bool × List Int) : slices_Clone_uint64 s =
 bif s.1 then
 some (true, [])
else 
 bif decide (([] : List Int).length + s.2.length ≤ lim) then
 some (false, ([] ++ s.2))
else none := Eq.trans (inf_call_eq (H := H) 337 s) (by kernel_rfl)
theorem impl_Program_after_L0_eq (s : Bool × List Int) (p : DProgram) (out : Bool × List Int) (t13 : Bool × List DChange) (t14 : Int) (t15 : Int) : impl_Program_after_L0 s p out t13 t14 t15 =
 bif decide (t15 < t14) then
 bif decide (0 ≤ t15) then
 bif decide (t15 < (t13.2.length : Int)) then
(impl_valueOf p.1 ((t13.2.getD (Int.toNat t15) (0, (true, []))).2) s).bind fun r =>
 bif decide (0 ≤ ((t13.2.getD (Int.toNat t15) (0, (true, []))).1)) then
 bif decide (((t13.2.getD (Int.toNat t15) (0, (true, []))).1) < (out.2.length : Int)) then
(impl_Program_after_L0 s p (out.1, (out.2.set (Int.toNat ((t13.2.getD (Int.toNat t15) (0, (true, []))).1)) r)) t13 t14 (IntKind.i64.wrap (t15 + 1))).bind fun r => some r
else none
else none
else none
else none
else 
 some (out.1, out.2) := Eq.trans (inf_loop_eq (H := H) 290 0 (loopCode Tryz.f290 0) (s, (p, (out, (t13, (t14, t15))))) key_impl_Program_after) (by kernel_rfl)
theorem impl_Program_after_eq (p : DProgram) (c : DCommand) (s : Bool × List Int) : impl_Program_after p c s =
(slices_Clone_uint64 s).bind fun r =>
(impl_Program_after_L0 s p (r.1, r.2) c.2 (c.2.2.length : Int) 0).bind fun r1 =>
 some (r1.1, r1.2) := Eq.trans (inf_call_eq (H := H) 290 (p, (c, s))) (by kernel_rfl)
theorem impl_Program_stateNo_L0_eq (p : DProgram) (no : Int) (t8 : Bool × List Int) (t9 : Int) (t10 : Int) : impl_Program_stateNo_L0 p no t8 t9 t10 =
 bif decide (t10 < t9) then
 bif decide (0 ≤ t10) then
 bif decide (t10 < (t8.2.length : Int)) then
 bif decide ((IntKind.i64.wrap (p.1 * t10)) < 0) then
 none
else 
(impl_Program_stateNo_L0 p (bOr .i64 no (bShl .i64 (IntKind.i64.wrap (t8.2.getD (Int.toNat t10) 0)) (IntKind.i64.wrap (p.1 * t10)))) t8 t9 (IntKind.i64.wrap (t10 + 1))).bind fun r => some r
else none
else none
else 
 some no := Eq.trans (inf_loop_eq (H := H) 289 0 (loopCode Tryz.f289 0) (p, (no, (t8, (t9, t10)))) key_impl_Program_stateNo) (by kernel_rfl)
theorem impl_Program_stateNo_eq (p : DProgram) (s : Bool × List Int) : impl_Program_stateNo p s =
(impl_Program_stateNo_L0 p 0 s (s.2.length : Int) 0).bind fun r =>
 some r := Eq.trans (inf_call_eq (H := H) 289 (p, s)) (by kernel_rfl)
theorem slices_Sort_int_eq (s : Bool × List Int) : slices_Sort_int s =
(sortI s).bind fun r => some r := Eq.trans (inf_call_eq (H := H) 282 s) (by kernel_rfl)
theorem slices_Compact_int_eq (s : Bool × List Int) : slices_Compact_int s =
(compactI s).bind fun r => some r := Eq.trans (inf_call_eq (H := H) 283 s) (by kernel_rfl)
theorem impl_Program_nextOf_L0_eq (no : Int) (p : DProgram) (s : Bool × List Int) (out : Bool × List Int) (t14 : Bool × List DCommand) (t15 : Int) (t16 : Int) : impl_Program_nextOf_L0 no p s out t14 t15 t16 =
 bif decide (t16 < t15) then
 bif decide (0 ≤ t16) then
 bif decide (t16 < (t14.2.length : Int)) then
(impl_Program_holds p ((t14.2.getD (Int.toNat t16) ((true, []), (true, []))).1) s).bind fun r =>
 bif r then
(impl_Program_after p (t14.2.getD (Int.toNat t16) ((true, []), (true, []))) s).bind fun r1 =>
(impl_Program_stateNo p (r1.1, r1.2)).bind fun r2 =>
 bif decide (out.2.length + [r2].length ≤ lim) then
(impl_Program_nextOf_L0 no p s ((out.1 && false), (out.2 ++ [r2])) t14 t15 (IntKind.i64.wrap (t16 + 1))).bind fun r => some r
else none
else 
(impl_Program_nextOf_L0 no p s (out.1, out.2) t14 t15 (IntKind.i64.wrap (t16 + 1))).bind fun r => some r
else none
else none
else 
 some (out.1, out.2) := Eq.trans (inf_loop_eq (H := H) 222 0 (loopCode Tryz.f222 0) (no, (p, (s, (out, (t14, (t15, t16)))))) key_impl_Program_nextOf) (by kernel_rfl)
theorem impl_Program_nextOf_eq (p : DProgram) (no : Int) : impl_Program_nextOf p no =
(impl_Program_stateOf p no).bind fun r =>
(impl_Program_nextOf_L0 no p (r.1, r.2) (false, []) p.2.2.2 (p.2.2.2.2.length : Int) 0).bind fun r1 =>
 bif ((r1.2.length : Int) == 0) then
 some (false, [no])
else 
(slices_Sort_int (r1.1, r1.2)).bind fun r2 =>
(slices_Compact_int (r2.1, r2.2)).bind fun r3 =>
 some (r3.1, r3.2) := Eq.trans (inf_call_eq (H := H) 222 (p, no)) (by kernel_rfl)
theorem impl_Program_graph_L0_eq (p : DProgram) (out : Bool × List (Bool × List Int)) (t7 : Int) (t8 : Int) : impl_Program_graph_L0 p out t7 t8 =
 bif decide (t8 < t7) then
(impl_Program_nextOf p t8).bind fun r =>
 bif decide (out.2.length + [(r.1, r.2)].length ≤ lim) then
(impl_Program_graph_L0 p ((out.1 && false), (out.2 ++ [(r.1, r.2)])) t7 (IntKind.i64.wrap (t8 + 1))).bind fun r => some r
else none
else 
 some (out.1, out.2) := Eq.trans (inf_loop_eq (H := H) 147 0 (loopCode Tryz.f147 0) (p, (out, (t7, t8))) key_impl_Program_graph) (by kernel_rfl)
theorem impl_Program_graph_eq (p : DProgram) : impl_Program_graph p =
(impl_Program_states p).bind fun r =>
(impl_Program_graph_L0 p (false, []) r 0).bind fun r1 =>
 some (r1.1, r1.2) := Eq.trans (inf_call_eq (H := H) 147 p) (by kernel_rfl)
theorem impl_Program_where_L0_eq (t : Bool × List DNode) (p : DProgram) (out : Bool × List Int) (t9 : Int) (t10 : Int) : impl_Program_where_L0 t p out t9 t10 =
 bif decide (t10 < t9) then
(impl_Program_stateOf p t10).bind fun r =>
(impl_Program_holds p t (r.1, r.2)).bind fun r1 =>
 bif r1 then
 bif decide (out.2.length + [t10].length ≤ lim) then
(impl_Program_where_L0 t p ((out.1 && false), (out.2 ++ [t10])) t9 (IntKind.i64.wrap (t10 + 1))).bind fun r => some r
else none
else 
(impl_Program_where_L0 t p (out.1, out.2) t9 (IntKind.i64.wrap (t10 + 1))).bind fun r => some r
else 
 some (out.1, out.2) := Eq.trans (inf_loop_eq (H := H) 172 0 (loopCode Tryz.f172 0) (t, (p, (out, (t9, t10)))) key_impl_Program_where) (by kernel_rfl)
theorem impl_Program_where_eq (p : DProgram) (t : Bool × List DNode) : impl_Program_where p t =
(impl_Program_states p).bind fun r =>
(impl_Program_where_L0 t p (false, []) r 0).bind fun r1 =>
 some (r1.1, r1.2) := Eq.trans (inf_call_eq (H := H) 172 (p, t)) (by kernel_rfl)
theorem impl_marked_L0_eq (out : Bool × List Int) (t7 : Bool × List Bool) (t8 : Int) (t9 : Int) : impl_marked_L0 out t7 t8 t9 =
 bif decide (t9 < t8) then
 bif decide (0 ≤ t9) then
 bif decide (t9 < (t7.2.length : Int)) then
 bif (t7.2.getD (Int.toNat t9) false) then
 bif decide (out.2.length + [t9].length ≤ lim) then
(impl_marked_L0 ((out.1 && false), (out.2 ++ [t9])) t7 t8 (IntKind.i64.wrap (t9 + 1))).bind fun r => some r
else none
else 
(impl_marked_L0 (out.1, out.2) t7 t8 (IntKind.i64.wrap (t9 + 1))).bind fun r => some r
else none
else none
else 
 some (out.1, out.2) := Eq.trans (inf_loop_eq (H := H) 220 0 (loopCode Tryz.f220 0) (out, (t7, (t8, t9))) key_impl_marked) (by kernel_rfl)
theorem impl_marked_eq (list : Bool × List Bool) : impl_marked list =
(impl_marked_L0 (false, []) list (list.2.length : Int) 0).bind fun r =>
 some (r.1, r.2) := Eq.trans (inf_call_eq (H := H) 220 list) (by kernel_rfl)
theorem impl_statesAlong_1_eq (no : Int) (a1 : DSight) (a2 : Int) : impl_statesAlong_1 no a1 a2 =
 bif decide (0 ≤ no) then
 bif decide (no < (a1.2.length : Int)) then
 some ((a1.2.getD (Int.toNat no) 0) != a2)
else none
else none := Eq.trans (inf_call_eq (H := H) 221 (no, (a1, a2))) (by kernel_rfl)
theorem slices_IndexFunc_int_by_statesAlong_1_L0_eq (s : Bool × List Int) (f : DSight × Int × Unit) (t7 : Int) (t8 : Int) : slices_IndexFunc_int_by_statesAlong_1_L0 s f t7 t8 =
 bif decide (t8 < t7) then
 bif decide (0 ≤ t8) then
 bif decide (t8 < (s.2.length : Int)) then
(impl_statesAlong_1 (s.2.getD (Int.toNat t8) 0) f.1 f.2.1).bind fun r =>
 bif r then
 some (.inl t8)
else 
(slices_IndexFunc_int_by_statesAlong_1_L0 s f t7 (IntKind.i64.wrap (t8 + 1))).bind fun r => some r
else none
else none
else 
 some (.inr ()) := Eq.trans (inf_loop_eq (H := H) 10109 0 (loopCode Tryz.f152 0) (s, (f, (t7, t8))) key_slices_IndexFunc_int_by_statesAlong_1) (by kernel_rfl)
theorem slices_IndexFunc_int_by_statesAlong_1_eq (s : Bool × List Int) (f : DSight × Int × Unit) : slices_IndexFunc_int_by_statesAlong_1 s f =
(slices_IndexFunc_int_by_statesAlong_1_L0 s f (s.2.length : Int) 0).bind fun r =>
 match r with
| .inl y =>
 some y
| .inr z =>
 some (-1) := Eq.trans (inf_call_eq (H := H) 10109 (s, f)) (by kernel_rfl)
theorem slices_DeleteFunc_int_by_statesAlong_1_L0_eq (s : Bool × List Int) (del : DSight × Int × Unit) (i : Int) (j : Int) : slices_DeleteFunc_int_by_statesAlong_1_L0 s del i j =
 bif decide (j < (s.2.length : Int)) then
 bif decide (0 ≤ j) then
 bif decide (j < (s.2.length : Int)) then
(impl_statesAlong_1 (s.2.getD (Int.toNat j) 0) del.1 del.2.1).bind fun r =>
 bif !r then
 bif decide (0 ≤ i) then
 bif decide (i < (s.2.length : Int)) then
(slices_DeleteFunc_int_by_statesAlong_1_L0 (s.1, (s.2.set (Int.toNat i) (s.2.getD (Int.toNat j) 0))) del (IntKind.i64.wrap (i + 1)) (IntKind.i64.wrap (j + 1))).bind fun r => some r
else none
else none
else 
(slices_DeleteFunc_int_by_statesAlong_1_L0 (s.1, s.2) del i (IntKind.i64.wrap (j + 1))).bind fun r => some r
else none
else none
else 
 some ((s.1, s.2), i) := Eq.trans (inf_loop_eq (H := H) 149 0 (loopCode Tryz.f149 0) (s, (del, (i, j))) key_slices_DeleteFunc_int_by_statesAlong_1) (by kernel_rfl)
theorem slices_DeleteFunc_int_by_statesAlong_1_eq (s : Bool × List Int) (del : DSight × Int × Unit) : slices_DeleteFunc_int_by_statesAlong_1 s del =
(slices_IndexFunc_int_by_statesAlong_1 (s.1, s.2) del).bind fun r =>
 bif (r == (-1)) then
 some (s.1, s.2)
else 
(slices_DeleteFunc_int_by_statesAlong_1_L0 (s.1, s.2) del r (IntKind.i64.wrap (r + 1))).bind fun r1 =>
 bif decide (0 ≤ r1.2) then
 bif decide (r1.2 ≤ (r1.1.2.length : Int)) then
 bif decide (0 ≤ r1.2) then
 bif decide (r1.2 ≤ ((r1.1.2.take (Int.toNat r1.2) ++ (List.replicate (r1.1.2.length - (Int.toNat r1.2)) (0 : Int) ++ r1.1.2.drop r1.1.2.length)).length : Int)) then
 some (r1.1.1, (((r1.1.2.take (Int.toNat r1.2) ++ (List.replicate (r1.1.2.length - (Int.toNat r1.2)) (0 : Int) ++ r1.1.2.drop r1.1.2.length)).take (Int.toNat r1.2)).drop 0))
else none
else none
else none
else none := Eq.trans (inf_call_eq (H := H) 149 (s, del)) (by kernel_rfl)
theorem slices_Clone_int_eq (s : Bool × List Int) : slices_Clone_int s =
 bif s.1 then
 some (true, [])
else 
 bif decide (([] : List Int).length + s.2.length ≤ lim) then
 some (false, ([] ++ s.2))
else none := Eq.trans (inf_call_eq (H := H) 158 s) (by kernel_rfl)
theorem impl_statesAlong_L0_eq (p : DProgram) (v : DSight) (out : Bool × List (Bool × List Int)) (next : Bool × List (Bool × List Int)) (now : Bool × List Int) (t24 : Bool × List Int) (t25 : Int) (t26 : Int) : impl_statesAlong_L0 p v out next now t24 t25 t26 =
 bif decide (t26 < t25) then
 bif decide (0 ≤ t26) then
 bif decide (t26 < (t24.2.length : Int)) then
 bif decide (t26 > 0) then
(impl_Program_states p).bind fun r =>
 bif decide (0 ≤ r) then
 bif decide (r ≤ lim) then
 bif decide (r ≤ r) then
 bif decide (r ≤ lim) then
(impl_statesAlong_L2 p v (out.1, out.2) next (t24.2.getD (Int.toNat t26) 0) (false, (List.replicate (Int.toNat r) (false : Bool))) t24 t25 t26 (now.1, now.2) (now.2.length : Int) 0).bind fun r1 =>
(impl_marked (r1.1, r1.2)).bind fun r2 =>
(slices_DeleteFunc_int_by_statesAlong_1 (r2.1, r2.2) (v, ((t24.2.getD (Int.toNat t26) 0), ()))).bind fun r3 =>
(slices_Clone_int (r3.1, r3.2)).bind fun r4 =>
 bif decide (out.2.length + [(r4.1, r4.2)].length ≤ lim) then
(impl_statesAlong_L0 p v ((out.1 && false), (out.2 ++ [(r4.1, r4.2)])) next (r3.1, r3.2) t24 t25 (IntKind.i64.wrap (t26 + 1))).bind fun r => some r
else none
else none
else none
else none
else none
else 
(slices_DeleteFunc_int_by_statesAlong_1 (now.1, now.2) (v, ((t24.2.getD (Int.toNat t26) 0), ()))).bind fun r5 =>
(slices_Clone_int (r5.1, r5.2)).bind fun r6 =>
 bif decide (out.2.length + [(r6.1, r6.2)].length ≤ lim) then
(impl_statesAlong_L0 p v ((out.1 && false), (out.2 ++ [(r6.1, r6.2)])) next (r5.1, r5.2) t24 t25 (IntKind.i64.wrap (t26 + 1))).bind fun r => some r
else none
else none
else none
else 
 some (out.1, out.2) := Eq.trans (inf_loop_eq (H := H) 146 0 (loopCode Tryz.f146 0) (p, (v, (out, (next, (now, (t24, (t25, t26))))))) key_impl_statesAlong) (by kernel_rfl)
theorem impl_statesAlong_L2_eq (p : DProgram) (v : DSight) (out : Bool × List (Bool × List Int)) (next : Bool × List (Bool × List Int)) (class_ : Int) (in_ : Bool × List Bool) (t24 : Bool × List Int) (t25 : Int) (t26 : Int) (t36 : Bool × List Int) (t37 : Int) (t38 : Int) : impl_statesAlong_L2 p v out next class_ in_ t24 t25 t26 t36 t37 t38 =
 bif decide (t38 < t37) then
 bif decide (0 ≤ t38) then
 bif decide (t38 < (t36.2.length : Int)) then
 bif decide (0 ≤ (t36.2.getD (Int.toNat t38) 0)) then
 bif decide ((t36.2.getD (Int.toNat t38) 0) < (next.2.length : Int)) then
(impl_statesAlong_L4 p v out next class_ (in_.1, in_.2) t24 t25 t26 t36 t37 t38 (next.2.getD (Int.toNat (t36.2.getD (Int.toNat t38) 0)) (true, [])) (((next.2.getD (Int.toNat (t36.2.getD (Int.toNat t38) 0)) (true, [])).2).length : Int) 0).bind fun r =>
(impl_statesAlong_L2 p v out next class_ (r.1, r.2) t24 t25 t26 t36 t37 (IntKind.i64.wrap (t38 + 1))).bind fun r => some r
else none
else none
else none
else none
else 
 some (in_.1, in_.2) := Eq.trans (inf_loop_eq (H := H) 146 2 (loopCode Tryz.f146 2) (p, (v, (out, (next, (class_, (in_, (t24, (t25, (t26, (t36, (t37, t38))))))))))) key_impl_statesAlong) (by kernel_rfl)
theorem impl_statesAlong_L4_eq (p : DProgram) (v : DSight) (out : Bool × List (Bool × List Int)) (next : Bool × List (Bool × List Int)) (class_ : Int) (in_ : Bool × List Bool) (t24 : Bool × List Int) (t25 : Int) (t26 : Int) (t36 : Bool × List Int) (t37 : Int) (t38 : Int) (t45 : Bool × List Int) (t46 : Int) (t47 : Int) : impl_statesAlong_L4 p v out next class_ in_ t24 t25 t26 t36 t37 t38 t45 t46 t47 =
 bif decide (t47 < t46) then
 bif decide (0 ≤ t47) then
 bif decide (t47 < (t45.2.length : Int)) then
 bif decide (0 ≤ (t45.2.getD (Int.toNat t47) 0)) then
 bif decide ((t45.2.getD (Int.toNat t47) 0) < (in_.2.length : Int)) then
(impl_statesAlong_L4 p v out next class_ (in_.1, (in_.2.set (Int.toNat (t45.2.getD (Int.toNat t47) 0)) true)) t24 t25 t26 t36 t37 t38 t45 t46 (IntKind.i64.wrap (t47 + 1))).bind fun r => some r
else none
else none
else none
else none
else 
 some (in_.1, in_.2) := Eq.trans (inf_loop_eq (H := H) 146 4 (loopCode Tryz.f146 4) (p, (v, (out, (next, (class_, (in_, (t24, (t25, (t26, (t36, (t37, (t38, (t45, (t46, t47)))))))))))))) key_impl_statesAlong) (by kernel_rfl)
theorem impl_statesAlong_eq (p : DProgram) (v : DSight) (path : Bool × List Int) : impl_statesAlong p v path =
(impl_Program_graph p).bind fun r =>
(impl_Program_where p p.2.2.1).bind fun r1 =>
(impl_statesAlong_L0 p v (false, []) (r.1, r.2) (r1.1, r1.2) path (path.2.length : Int) 0).bind fun r2 =>
 some (r2.1, r2.2) := Eq.trans (inf_call_eq (H := H) 146 (p, (v, path))) (by kernel_rfl)
theorem impl_failsAt_1_eq (list : Bool × List Int) : impl_failsAt_1 list =
 some ((list.2.length : Int) == 0) := Eq.trans (inf_call_eq (H := H) 224 list) (by kernel_rfl)
theorem slices_IndexFunc_int_by_failsAt_1_L0_eq (s : Bool × List (Bool × List Int)) (f : Unit) (t7 : Int) (t8 : Int) : slices_IndexFunc_int_by_failsAt_1_L0 s f t7 t8 =
 bif decide (t8 < t7) then
 bif decide (0 ≤ t8) then
 bif decide (t8 < (s.2.length : Int)) then
(impl_failsAt_1 (s.2.getD (Int.toNat t8) (true, []))).bind fun r =>
 bif r then
 some (.inl t8)
else 
(slices_IndexFunc_int_by_failsAt_1_L0 s f t7 (IntKind.i64.wrap (t8 + 1))).bind fun r => some r
else none
else none
else 
 some (.inr ()) := Eq.trans (inf_loop_eq (H := H) 223 0 (loopCode Tryz.f223 0) (s, (f, (t7, t8))) key_slices_IndexFunc_int_by_failsAt_1) (by kernel_rfl)
theorem slices_IndexFunc_int_by_failsAt_1_eq (s : Bool × List (Bool × List Int)) (f : Unit) : slices_IndexFunc_int_by_failsAt_1 s f =
(slices_IndexFunc_int_by_failsAt_1_L0 s f (s.2.length : Int) 0).bind fun r =>
 match r with
| .inl y =>
 some y
| .inr z =>
 some (-1) := Eq.trans (inf_call_eq (H := H) 223 (s, f)) (by kernel_rfl)
theorem impl_failsAt_eq (along : Bool × List (Bool × List Int)) : impl_failsAt along =
(slices_IndexFunc_int_by_failsAt_1 along ()).bind fun r =>
 some r := Eq.trans (inf_call_eq (H := H) 148 along) (by kernel_rfl)
theorem slices_Index_int_L0_eq (s : Bool × List Int) (v : Int) (t7 : Int) (t8 : Int) : slices_Index_int_L0 s v t7 t8 =
 bif decide (t8 < t7) then
 bif decide (0 ≤ t8) then
 bif decide (t8 < (s.2.length : Int)) then
 bif (v == (s.2.getD (Int.toNat t8) 0)) then
 some (.inl t8)
else 
(slices_Index_int_L0 s v t7 (IntKind.i64.wrap (t8 + 1))).bind fun r => some r
else none
else none
else 
 some (.inr ()) := Eq.trans (inf_loop_eq (H := H) 173 0 (loopCode Tryz.f173 0) (s, (v, (t7, t8))) key_slices_Index_int) (by kernel_rfl)
theorem slices_Index_int_eq (s : Bool × List Int) (v : Int) : slices_Index_int s v =
(slices_Index_int_L0 s v (s.2.length : Int) 0).bind fun r =>
 match r with
| .inl y =>
 some y
| .inr z =>
 some (-1) := Eq.trans (inf_call_eq (H := H) 173 (s, v)) (by kernel_rfl)
theorem slices_Contains_int_eq (s : Bool × List Int) (v : Int) : slices_Contains_int s v =
(slices_Index_int s v).bind fun r =>
 some (decide (r ≥ 0)) := Eq.trans (inf_call_eq (H := H) 96 (s, v)) (by kernel_rfl)
theorem impl_realPath_1_1_eq (to : Int) (a1 : Bool × List (Bool × List Int)) (a2 : Int) : impl_realPath_1_1 to a1 a2 =
 bif decide (0 ≤ (IntKind.i64.wrap (a2 + 1))) then
 bif decide ((IntKind.i64.wrap (a2 + 1)) < (a1.2.length : Int)) then
(slices_Contains_int (a1.2.getD (Int.toNat (IntKind.i64.wrap (a2 + 1))) (true, [])) to).bind fun r =>
 some r
else none
else none := Eq.trans (inf_call_eq (H := H) 151 (to, (a1, a2))) (by kernel_rfl)
theorem slices_IndexFunc_int_by_realPath_1_1_L0_eq (s : Bool × List Int) (f : (Bool × List (Bool × List Int)) × Int × Unit) (t7 : Int) (t8 : Int) : slices_IndexFunc_int_by_realPath_1_1_L0 s f t7 t8 =
 bif decide (t8 < t7) then
 bif decide (0 ≤ t8) then
 bif decide (t8 < (s.2.length : Int)) then
(impl_realPath_1_1 (s.2.getD (Int.toNat t8) 0) f.1 f.2.1).bind fun r =>
 bif r then
 some (.inl t8)
else 
(slices_IndexFunc_int_by_realPath_1_1_L0 s f t7 (IntKind.i64.wrap (t8 + 1))).bind fun r => some r
else none
else none
else 
 some (.inr ()) := Eq.trans (inf_loop_eq (H := H) 10119 0 (loopCode Tryz.f152 0) (s, (f, (t7, t8))) key_slices_IndexFunc_int_by_realPath_1_1) (by kernel_rfl)
theorem slices_IndexFunc_int_by_realPath_1_1_eq (s : Bool × List Int) (f : (Bool × List (Bool × List Int)) × Int × Unit) : slices_IndexFunc_int_by_realPath_1_1 s f =
(slices_IndexFunc_int_by_realPath_1_1_L0 s f (s.2.length : Int) 0).bind fun r =>
 match r with
| .inl y =>
 some y
| .inr z =>
 some (-1) := Eq.trans (inf_call_eq (H := H) 10119 (s, f)) (by kernel_rfl)
theorem slices_ContainsFunc_int_by_realPath_1_1_eq (s : Bool × List Int) (f : (Bool × List (Bool × List Int)) × Int × Unit) : slices_ContainsFunc_int_by_realPath_1_1 s f =
(slices_IndexFunc_int_by_realPath_1_1 s f).bind fun r =>
 some (decide (r ≥ 0)) := Eq.trans (inf_call_eq (H := H) 10118 (s, f)) (by kernel_rfl)
theorem impl_realPath_1_eq (no : Int) (a1 : Bool × List (Bool × List Int)) (a2 : Bool × List (Bool × List Int)) (a3 : Int) : impl_realPath_1 no a1 a2 a3 =
 bif decide (0 ≤ no) then
 bif decide (no < (a1.2.length : Int)) then
(slices_ContainsFunc_int_by_realPath_1_1 (a1.2.getD (Int.toNat no) (true, [])) (a2, (a3, ()))).bind fun r =>
 some (!r)
else none
else none := Eq.trans (inf_call_eq (H := H) 150 (no, (a1, (a2, a3)))) (by kernel_rfl)
theorem slices_IndexFunc_int_by_realPath_1_L0_eq (s : Bool × List Int) (f : (Bool × List (Bool × List Int)) × (Bool × List (Bool × List Int)) × Int × Unit) (t7 : Int) (t8 : Int) : slices_IndexFunc_int_by_realPath_1_L0 s f t7 t8 =
 bif decide (t8 < t7) then
 bif decide (0 ≤ t8) then
 bif decide (t8 < (s.2.length : Int)) then
(impl_realPath_1 (s.2.getD (Int.toNat t8) 0) f.1 f.2.1 f.2.2.1).bind fun r =>
 bif r then
 some (.inl t8)
else 
(slices_IndexFunc_int_by_realPath_1_L0 s f t7 (IntKind.i64.wrap (t8 + 1))).bind fun r => some r
else none
else none
else 
 some (.inr ()) := Eq.trans (inf_loop_eq (H := H) 10116 0 (loopCode Tryz.f152 0) (s, (f, (t7, t8))) key_slices_IndexFunc_int_by_realPath_1) (by kernel_rfl)
theorem slices_IndexFunc_int_by_realPath_1_eq (s : Bool × List Int) (f : (Bool × List (Bool × List Int)) × (Bool × List (Bool × List Int)) × Int × Unit) : slices_IndexFunc_int_by_realPath_1 s f =
(slices_IndexFunc_int_by_realPath_1_L0 s f (s.2.length : Int) 0).bind fun r =>
 match r with
| .inl y =>
 some y
| .inr z =>
 some (-1) := Eq.trans (inf_call_eq (H := H) 10116 (s, f)) (by kernel_rfl)
theorem slices_DeleteFunc_int_by_realPath_1_L0_eq (s : Bool × List Int) (del : (Bool × List (Bool × List Int)) × (Bool × List (Bool × List Int)) × Int × Unit) (i : Int) (j : Int) : slices_DeleteFunc_int_by_realPath_1_L0 s del i j =
 bif decide (j < (s.2.length : Int)) then
 bif decide (0 ≤ j) then
 bif decide (j < (s.2.length : Int)) then
(impl_realPath_1 (s.2.getD (Int.toNat j) 0) del.1 del.2.1 del.2.2.1).bind fun r =>
 bif !r then
 bif decide (0 ≤ i) then
 bif decide (i < (s.2.length : Int)) then
(slices_DeleteFunc_int_by_realPath_1_L0 (s.1, (s.2.set (Int.toNat i) (s.2.getD (Int.toNat j) 0))) del (IntKind.i64.wrap (i + 1)) (IntKind.i64.wrap (j + 1))).bind fun r => some r
else none
else none
else 
(slices_DeleteFunc_int_by_realPath_1_L0 (s.1, s.2) del i (IntKind.i64.wrap (j + 1))).bind fun r => some r
else none
else none
else 
 some ((s.1, s.2), i) := Eq.trans (inf_loop_eq (H := H) 10115 0 (loopCode Tryz.f149 0) (s, (del, (i, j))) key_slices_DeleteFunc_int_by_realPath_1) (by kernel_rfl)
theorem slices_DeleteFunc_int_by_realPath_1_eq (s : Bool × List Int) (del : (Bool × List (Bool × List Int)) × (Bool × List (Bool × List Int)) × Int × Unit) : slices_DeleteFunc_int_by_realPath_1 s del =
(slices_IndexFunc_int_by_realPath_1 (s.1, s.2) del).bind fun r =>
 bif (r == (-1)) then
 some (s.1, s.2)
else 
(slices_DeleteFunc_int_by_realPath_1_L0 (s.1, s.2) del r (IntKind.i64.wrap (r + 1))).bind fun r1 =>
 bif decide (0 ≤ r1.2) then
 bif decide (r1.2 ≤ (r1.1.2.length : Int)) then
 bif decide (0 ≤ r1.2) then
 bif decide (r1.2 ≤ ((r1.1.2.take (Int.toNat r1.2) ++ (List.replicate (r1.1.2.length - (Int.toNat r1.2)) (0 : Int) ++ r1.1.2.drop r1.1.2.length)).length : Int)) then
 some (r1.1.1, (((r1.1.2.take (Int.toNat r1.2) ++ (List.replicate (r1.1.2.length - (Int.toNat r1.2)) (0 : Int) ++ r1.1.2.drop r1.1.2.length)).take (Int.toNat r1.2)).drop 0))
else none
else none
else none
else none := Eq.trans (inf_call_eq (H := H) 10115 (s, del)) (by kernel_rfl)
theorem impl_realPath_1_1_2_eq (to : Int) (a1 : Bool × List (Option (Bool × List Int))) (a2 : Int) : impl_realPath_1_1_2 to a1 a2 =
 bif decide (0 ≤ (IntKind.i64.wrap (a2 + 1))) then
 bif decide ((IntKind.i64.wrap (a2 + 1)) < (a1.2.length : Int)) then
(a1.2.getD (Int.toNat (IntKind.i64.wrap (a2 + 1))) none).bind fun y =>
(slices_Contains_int y to).bind fun r =>
 some r
else none
else none := Eq.trans (inf_call_eq (H := H) 10128 (to, (a1, a2))) (by kernel_rfl)
theorem slices_IndexFunc_int_by_realPath_1_1_2_L0_eq (s : Bool × List Int) (f : (Bool × List (Option (Bool × List Int))) × Int × Unit) (t7 : Int) (t8 : Int) : slices_IndexFunc_int_by_realPath_1_1_2_L0 s f t7 t8 =
 bif decide (t8 < t7) then
 bif decide (0 ≤ t8) then
 bif decide (t8 < (s.2.length : Int)) then
(impl_realPath_1_1_2 (s.2.getD (Int.toNat t8) 0) f.1 f.2.1).bind fun r =>
 bif r then
 some (.inl t8)
else 
(slices_IndexFunc_int_by_realPath_1_1_2_L0 s f t7 (IntKind.i64.wrap (t8 + 1))).bind fun r => some r
else none
else none
else 
 some (.inr ()) := Eq.trans (inf_loop_eq (H := H) 10127 0 (loopCode Tryz.f152 0) (s, (f, (t7, t8))) key_slices_IndexFunc_int_by_realPath_1_1_2) (by kernel_rfl)
theorem slices_IndexFunc_int_by_realPath_1_1_2_eq (s : Bool × List Int) (f : (Bool × List (Option (Bool × List Int))) × Int × Unit) : slices_IndexFunc_int_by_realPath_1_1_2 s f =
(slices_IndexFunc_int_by_realPath_1_1_2_L0 s f (s.2.length : Int) 0).bind fun r =>
 match r with
| .inl y =>
 some y
| .inr z =>
 some (-1) := Eq.trans (inf_call_eq (H := H) 10127 (s, f)) (by kernel_rfl)
theorem slices_ContainsFunc_int_by_realPath_1_1_2_eq (s : Bool × List Int) (f : (Bool × List (Option (Bool × List Int))) × Int × Unit) : slices_ContainsFunc_int_by_realPath_1_1_2 s f =
(slices_IndexFunc_int_by_realPath_1_1_2 s f).bind fun r =>
 some (decide (r ≥ 0)) := Eq.trans (inf_call_eq (H := H) 10126 (s, f)) (by kernel_rfl)
theorem impl_realPath_1_2_eq (no : Int) (a1 : Bool × List (Bool × List Int)) (a2 : Bool × List (Option (Bool × List Int))) (a3 : Int) : impl_realPath_1_2 no a1 a2 a3 =
 bif decide (0 ≤ no) then
 bif decide (no < (a1.2.length : Int)) then
(slices_ContainsFunc_int_by_realPath_1_1_2 (a1.2.getD (Int.toNat no) (true, [])) (a2, (a3, ()))).bind fun r =>
 some (!r)
else none
else none := Eq.trans (inf_call_eq (H := H) 10125 (no, (a1, (a2, a3)))) (by kernel_rfl)
theorem slices_IndexFunc_int_by_realPath_1_2_L0_eq (s : Bool × List Int) (f : (Bool × List (Bool × List Int)) × (Bool × List (Option (Bool × List Int))) × Int × Unit) (t7 : Int) (t8 : Int) : slices_IndexFunc_int_by_realPath_1_2_L0 s f t7 t8 =
 bif decide (t8 < t7) then
 bif decide (0 ≤ t8) then
 bif decide (t8 < (s.2.length : Int)) then
(impl_realPath_1_2 (s.2.getD (Int.toNat t8) 0) f.1 f.2.1 f.2.2.1).bind fun r =>
 bif r then
 some (.inl t8)
else 
(slices_IndexFunc_int_by_realPath_1_2_L0 s f t7 (IntKind.i64.wrap (t8 + 1))).bind fun r => some r
else none
else none
else 
 some (.inr ()) := Eq.trans (inf_loop_eq (H := H) 10124 0 (loopCode Tryz.f152 0) (s, (f, (t7, t8))) key_slices_IndexFunc_int_by_realPath_1_2) (by kernel_rfl)
theorem slices_IndexFunc_int_by_realPath_1_2_eq (s : Bool × List Int) (f : (Bool × List (Bool × List Int)) × (Bool × List (Option (Bool × List Int))) × Int × Unit) : slices_IndexFunc_int_by_realPath_1_2 s f =
(slices_IndexFunc_int_by_realPath_1_2_L0 s f (s.2.length : Int) 0).bind fun r =>
 match r with
| .inl y =>
 some y
| .inr z =>
 some (-1) := Eq.trans (inf_call_eq (H := H) 10124 (s, f)) (by kernel_rfl)
theorem slices_DeleteFunc_int_by_realPath_1_2_L0_eq (s : Bool × List Int) (del : (Bool × List (Bool × List Int)) × (Bool × List (Option (Bool × List Int))) × Int × Unit) (i : Int) (j : Int) : slices_DeleteFunc_int_by_realPath_1_2_L0 s del i j =
 bif decide (j < (s.2.length : Int)) then
 bif decide (0 ≤ j) then
 bif decide (j < (s.2.length : Int)) then
(impl_realPath_1_2 (s.2.getD (Int.toNat j) 0) del.1 del.2.1 del.2.2.1).bind fun r =>
 bif !r then
 bif decide (0 ≤ i) then
 bif decide (i < (s.2.length : Int)) then
(slices_DeleteFunc_int_by_realPath_1_2_L0 (s.1, (s.2.set (Int.toNat i) (s.2.getD (Int.toNat j) 0))) del (IntKind.i64.wrap (i + 1)) (IntKind.i64.wrap (j + 1))).bind fun r => some r
else none
else none
else 
(slices_DeleteFunc_int_by_realPath_1_2_L0 (s.1, s.2) del i (IntKind.i64.wrap (j + 1))).bind fun r => some r
else none
else none
else 
 some ((s.1, s.2), i) := Eq.trans (inf_loop_eq (H := H) 10123 0 (loopCode Tryz.f149 0) (s, (del, (i, j))) key_slices_DeleteFunc_int_by_realPath_1_2) (by kernel_rfl)
theorem slices_DeleteFunc_int_by_realPath_1_2_eq (s : Bool × List Int) (del : (Bool × List (Bool × List Int)) × (Bool × List (Option (Bool × List Int))) × Int × Unit) : slices_DeleteFunc_int_by_realPath_1_2 s del =
(slices_IndexFunc_int_by_realPath_1_2 (s.1, s.2) del).bind fun r =>
 bif (r == (-1)) then
 some (s.1, s.2)
else 
(slices_DeleteFunc_int_by_realPath_1_2_L0 (s.1, s.2) del r (IntKind.i64.wrap (r + 1))).bind fun r1 =>
 bif decide (0 ≤ r1.2) then
 bif decide (r1.2 ≤ (r1.1.2.length : Int)) then
 bif decide (0 ≤ r1.2) then
 bif decide (r1.2 ≤ ((r1.1.2.take (Int.toNat r1.2) ++ (List.replicate (r1.1.2.length - (Int.toNat r1.2)) (0 : Int) ++ r1.1.2.drop r1.1.2.length)).length : Int)) then
 some (r1.1.1, (((r1.1.2.take (Int.toNat r1.2) ++ (List.replicate (r1.1.2.length - (Int.toNat r1.2)) (0 : Int) ++ r1.1.2.drop r1.1.2.length)).take (Int.toNat r1.2)).drop 0))
else none
else none
else none
else none := Eq.trans (inf_call_eq (H := H) 10123 (s, del)) (by kernel_rfl)
theorem impl_realPath_2_eq (to : Int) (a1 : Bool × List (Bool × List Int)) (a2 : Bool × List Int) (a3 : Int) : impl_realPath_2 to a1 a2 a3 =
 bif decide (0 ≤ (IntKind.i64.wrap (a3 - 1))) then
 bif decide ((IntKind.i64.wrap (a3 - 1)) < (a2.2.length : Int)) then
 bif decide (0 ≤ (a2.2.getD (Int.toNat (IntKind.i64.wrap (a3 - 1))) 0)) then
 bif decide ((a2.2.getD (Int.toNat (IntKind.i64.wrap (a3 - 1))) 0) < (a1.2.length : Int)) then
(slices_Contains_int (a1.2.getD (Int.toNat (a2.2.getD (Int.toNat (IntKind.i64.wrap (a3 - 1))) 0)) (true, [])) to).bind fun r =>
 some r
else none
else none
else none
else none := Eq.trans (inf_call_eq (H := H) 153 (to, (a1, (a2, a3)))) (by kernel_rfl)
theorem slices_IndexFunc_int_by_realPath_2_L0_eq (s : Bool × List Int) (f : (Bool × List (Bool × List Int)) × (Bool × List Int) × Int × Unit) (t7 : Int) (t8 : Int) : slices_IndexFunc_int_by_realPath_2_L0 s f t7 t8 =
 bif decide (t8 < t7) then
 bif decide (0 ≤ t8) then
 bif decide (t8 < (s.2.length : Int)) then
(impl_realPath_2 (s.2.getD (Int.toNat t8) 0) f.1 f.2.1 f.2.2.1).bind fun r =>
 bif r then
 some (.inl t8)
else 
(slices_IndexFunc_int_by_realPath_2_L0 s f t7 (IntKind.i64.wrap (t8 + 1))).bind fun r => some r
else none
else none
else 
 some (.inr ()) := Eq.trans (inf_loop_eq (H := H) 10129 0 (loopCode Tryz.f152 0) (s, (f, (t7, t8))) key_slices_IndexFunc_int_by_realPath_2) (by kernel_rfl)
theorem slices_IndexFunc_int_by_realPath_2_eq (s : Bool × List Int) (f : (Bool × List (Bool × List Int)) × (Bool × List Int) × Int × Unit) : slices_IndexFunc_int_by_realPath_2 s f =
(slices_IndexFunc_int_by_realPath_2_L0 s f (s.2.length : Int) 0).bind fun r =>
 match r with
| .inl y =>
 some y
| .inr z =>
 some (-1) := Eq.trans (inf_call_eq (H := H) 10129 (s, f)) (by kernel_rfl)
theorem impl_realPath_L0_eq (along : Bool × List (Bool × List Int)) (next : Bool × List (Bool × List Int)) (last : Int) (k_ : Int) : impl_realPath_L0 along next last k_ =
 bif decide (k_ ≥ 0) then
 bif decide (0 ≤ k_) then
 bif decide (k_ < (along.2.length : Int)) then
(slices_DeleteFunc_int_by_realPath_1_2 ((along.2.getD (Int.toNat k_) (true, [])).1, (along.2.getD (Int.toNat k_) (true, [])).2) (next, ((along.1, (holeAt along.2 (Int.toNat k_))), (k_, ())))).bind fun r =>
 bif decide (0 ≤ k_) then
 bif decide (k_ < (along.2.length : Int)) then
 bif ((Int.toNat k_) == (Int.toNat k_)) then
(impl_realPath_L0 (along.1, (along.2.set (Int.toNat k_) (r.1, r.2))) next last (IntKind.i64.wrap (k_ - 1))).bind fun r => some r
else none
else none
else none
else none
else none
else 
 some (along.1, along.2) := Eq.trans (inf_loop_eq (H := H) 77 0 (loopCode Tryz.f77 0) (along, (next, (last, k_))) key_impl_realPath) (by kernel_rfl)
theorem impl_realPath_L2_eq (along : Bool × List (Bool × List Int)) (next : Bool × List (Bool × List Int)) (last : Int) (out : Bool × List Int) (k_ : Int) : impl_realPath_L2 along next last out k_ =
 bif decide (k_ ≤ last) then
 bif decide (0 ≤ k_) then
 bif decide (k_ < (along.2.length : Int)) then
(slices_IndexFunc_int_by_realPath_2 (along.2.getD (Int.toNat k_) (true, [])) (next, ((out.1, out.2), (k_, ())))).bind fun r =>
 bif decide (0 ≤ k_) then
 bif decide (k_ < (along.2.length : Int)) then
 bif decide (0 ≤ r) then
 bif decide (r < (((along.2.getD (Int.toNat k_) (true, [])).2).length : Int)) then
 bif decide (out.2.length + [(((along.2.getD (Int.toNat k_) (true, [])).2).getD (Int.toNat r) 0)].length ≤ lim) then
(impl_realPath_L2 along next last ((out.1 && false), (out.2 ++ [(((along.2.getD (Int.toNat k_) (true, [])).2).getD (Int.toNat r) 0)])) (IntKind.i64.wrap (k_ + 1))).bind fun r => some r
else none
else none
else none
else none
else none
else none
else none
else 
 some (out.1, out.2) := Eq.trans (inf_loop_eq (H := H) 77 2 (loopCode Tryz.f77 2) (along, (next, (last, (out, k_)))) key_impl_realPath) (by kernel_rfl)
theorem impl_realPath_eq (p : DProgram) (v : DSight) (path : Bool × List Int) : impl_realPath p v path =
(impl_statesAlong p v path).bind fun r =>
(impl_Program_graph p).bind fun r1 =>
(impl_failsAt (r.1, r.2)).bind fun r2 =>
 bif decide (r2 ≥ 0) then
 some (true, [])
else 
(impl_realPath_L0 (r.1, r.2) (r1.1, r1.2) (IntKind.i64.wrap ((r.2.length : Int) - 1)) (IntKind.i64.wrap ((IntKind.i64.wrap ((r.2.length : Int) - 1)) - 1))).bind fun r3 =>
 bif decide (0 < (r3.2.length : Int)) then
 bif decide (0 < (((r3.2.getD 0 (true, [])).2).length : Int)) then
(impl_realPath_L2 (r3.1, (r3.2.set 0 ((r3.2.getD 0 (true, [])).1, (r3.2.getD 0 (true, [])).2))) (r1.1, r1.2) (IntKind.i64.wrap ((r.2.length : Int) - 1)) (false, [(((r3.2.getD 0 (true, [])).2).getD 0 0)]) 1).bind fun r4 =>
 some (r4.1, r4.2)
else none
else none := Eq.trans (inf_call_eq (H := H) 77 (p, (v, path))) (by kernel_rfl)
theorem impl_RealPath_eq (p : DProgram) (v : DSight) (path : Bool × List Int) : impl_RealPath p v path =
(impl_isClassPath p v path 200).bind fun r =>
 bif !r then
 some ((true, []), false)
else 
(impl_realPath p v path).bind fun r1 =>
 some ((r1.1, r1.2), !r1.1) := Eq.trans (inf_call_eq (H := H) 30 (p, (v, path))) (by kernel_rfl)
theorem laws_eqIntS_L0_eq (a : Bool × List Int) (b : Bool × List Int) (i : Int) : laws_eqIntS_L0 a b i =
 bif decide (i < (a.2.length : Int)) then
 bif decide (0 ≤ i) then
 bif decide (i < (a.2.length : Int)) then
 bif decide (0 ≤ i) then
 bif decide (i < (b.2.length : Int)) then
 bif ((a.2.getD (Int.toNat i) 0) != (b.2.getD (Int.toNat i) 0)) then
 some (.inl false)
else 
(laws_eqIntS_L0 a b (IntKind.i64.wrap (i + 1))).bind fun r => some r
else none
else none
else none
else none
else 
 some (.inr ()) := Eq.trans (inf_loop_eq (H := H) 31 0 (loopCode Tryz.f31 0) (a, (b, i)) key_laws_eqIntS) (by kernel_rfl)
theorem laws_eqIntS_eq (a : Bool × List Int) (b : Bool × List Int) : laws_eqIntS a b =
 bif ((a.2.length : Int) != (b.2.length : Int)) then
 some false
else 
(laws_eqIntS_L0 a b 0).bind fun r =>
 match r with
| .inl y =>
 some y
| .inr z =>
 some true := Eq.trans (inf_call_eq (H := H) 31 (a, b)) (by kernel_rfl)
theorem laws_eqNode_eq (a : DNode) (b : DNode) : laws_eqNode a b =
 bif (a.1 != b.1) then
 some false
else 
 bif (a.2 != b.2) then
 some false
else 
 some true := Eq.trans (inf_call_eq (H := H) 92 (a, b)) (by kernel_rfl)
theorem laws_eqNodeS_L0_eq (a : Bool × List DNode) (b : Bool × List DNode) (i : Int) : laws_eqNodeS_L0 a b i =
 bif decide (i < (a.2.length : Int)) then
 bif decide (0 ≤ i) then
 bif decide (i < (a.2.length : Int)) then
 bif decide (0 ≤ i) then
 bif decide (i < (b.2.length : Int)) then
(laws_eqNode (a.2.getD (Int.toNat i) (0, 0)) (b.2.getD (Int.toNat i) (0, 0))).bind fun r =>
 bif !r then
 some (.inl false)
else 
(laws_eqNodeS_L0 a b (IntKind.i64.wrap (i + 1))).bind fun r => some r
else none
else none
else none
else none
else 
 some (.inr ()) := Eq.trans (inf_loop_eq (H := H) 43 0 (loopCode Tryz.f43 0) (a, (b, i)) key_laws_eqNodeS) (by kernel_rfl)
theorem laws_eqNodeS_eq (a : Bool × List DNode) (b : Bool × List DNode) : laws_eqNodeS a b =
 bif ((a.2.length : Int) != (b.2.length : Int)) then
 some false
else 
(laws_eqNodeS_L0 a b 0).bind fun r =>
 match r with
| .inl y =>
 some y
| .inr z =>
 some true := Eq.trans (inf_call_eq (H := H) 43 (a, b)) (by kernel_rfl)
theorem laws_eqChange_eq (a : DChange) (b : DChange) : laws_eqChange a b =
 bif (a.1 != b.1) then
 some false
else 
(laws_eqNodeS a.2 b.2).bind fun r =>
 bif !r then
 some false
else 
 some true := Eq.trans (inf_call_eq (H := H) 291 (a, b)) (by kernel_rfl)
theorem laws_eqChangeS_L0_eq (a : Bool × List DChange) (b : Bool × List DChange) (i : Int) : laws_eqChangeS_L0 a b i =
 bif decide (i < (a.2.length : Int)) then
 bif decide (0 ≤ i) then
 bif decide (i < (a.2.length : Int)) then
 bif decide (0 ≤ i) then
 bif decide (i < (b.2.length : Int)) then
(laws_eqChange (a.2.getD (Int.toNat i) (0, (true, []))) (b.2.getD (Int.toNat i) (0, (true, [])))).bind fun r =>
 bif !r then
 some (.inl false)
else 
(laws_eqChangeS_L0 a b (IntKind.i64.wrap (i + 1))).bind fun r => some r
else none
else none
else none
else none
else 
 some (.inr ()) := Eq.trans (inf_loop_eq (H := H) 225 0 (loopCode Tryz.f225 0) (a, (b, i)) key_laws_eqChangeS) (by kernel_rfl)
theorem laws_eqChangeS_eq (a : Bool × List DChange) (b : Bool × List DChange) : laws_eqChangeS a b =
 bif ((a.2.length : Int) != (b.2.length : Int)) then
 some false
else 
(laws_eqChangeS_L0 a b 0).bind fun r =>
 match r with
| .inl y =>
 some y
| .inr z =>
 some true := Eq.trans (inf_call_eq (H := H) 225 (a, b)) (by kernel_rfl)
theorem laws_eqCommand_eq (a : DCommand) (b : DCommand) : laws_eqCommand a b =
(laws_eqNodeS a.1 b.1).bind fun r =>
 bif !r then
 some false
else 
(laws_eqChangeS a.2 b.2).bind fun r1 =>
 bif !r1 then
 some false
else 
 some true := Eq.trans (inf_call_eq (H := H) 154 (a, b)) (by kernel_rfl)
theorem laws_eqCommandS_L0_eq (a : Bool × List DCommand) (b : Bool × List DCommand) (i : Int) : laws_eqCommandS_L0 a b i =
 bif decide (i < (a.2.length : Int)) then
 bif decide (0 ≤ i) then
 bif decide (i < (a.2.length : Int)) then
 bif decide (0 ≤ i) then
 bif decide (i < (b.2.length : Int)) then
(laws_eqCommand (a.2.getD (Int.toNat i) ((true, []), (true, []))) (b.2.getD (Int.toNat i) ((true, []), (true, [])))).bind fun r =>
 bif !r then
 some (.inl false)
else 
(laws_eqCommandS_L0 a b (IntKind.i64.wrap (i + 1))).bind fun r => some r
else none
else none
else none
else none
else 
 some (.inr ()) := Eq.trans (inf_loop_eq (H := H) 78 0 (loopCode Tryz.f78 0) (a, (b, i)) key_laws_eqCommandS) (by kernel_rfl)
theorem laws_eqCommandS_eq (a : Bool × List DCommand) (b : Bool × List DCommand) : laws_eqCommandS a b =
 bif ((a.2.length : Int) != (b.2.length : Int)) then
 some false
else 
(laws_eqCommandS_L0 a b 0).bind fun r =>
 match r with
| .inl y =>
 some y
| .inr z =>
 some true := Eq.trans (inf_call_eq (H := H) 78 (a, b)) (by kernel_rfl)
theorem laws_eqProgram_eq (a : DProgram) (b : DProgram) : laws_eqProgram a b =
 bif (a.1 != b.1) then
 some false
else 
 bif (a.2.1 != b.2.1) then
 some false
else 
(laws_eqNodeS a.2.2.1 b.2.2.1).bind fun r =>
 bif !r then
 some false
else 
(laws_eqCommandS a.2.2.2 b.2.2.2).bind fun r1 =>
 bif !r1 then
 some false
else 
 some true := Eq.trans (inf_call_eq (H := H) 32 (a, b)) (by kernel_rfl)
theorem laws_eqSight_eq (a : DSight) (b : DSight) : laws_eqSight a b =
(laws_eqIntS a b).bind fun r =>
 bif !r then
 some false
else 
 some true := Eq.trans (inf_call_eq (H := H) 17 (a, b)) (by kernel_rfl)
theorem laws_markNodeS_L0_eq (a : Bool × List DNode) (k_ : Int) (i : Int) : laws_markNodeS_L0 a k_ i =
 bif decide (i < (a.2.length : Int)) then
 bif decide (0 ≤ i) then
 bif decide (i < (a.2.length : Int)) then
 bif decide (0 ≤ i) then
 bif decide (i < ((a.2.set (Int.toNat i) (k_, (a.2.getD (Int.toNat i) (0, 0)).2)).length : Int)) then
(laws_markNodeS_L0 (a.1, ((a.2.set (Int.toNat i) (k_, (a.2.getD (Int.toNat i) (0, 0)).2)).set (Int.toNat i) (((a.2.set (Int.toNat i) (k_, (a.2.getD (Int.toNat i) (0, 0)).2)).getD (Int.toNat i) (0, 0)).1, IntKind.u64.wrap (IntKind.i64.wrap (k_ + 1))))) (IntKind.i64.wrap ((IntKind.i64.wrap (k_ + 1)) + 1)) (IntKind.i64.wrap (i + 1))).bind fun r => some r
else none
else none
else none
else none
else 
 some ((a.1, a.2), k_) := Eq.trans (inf_loop_eq (H := H) 44 0 (loopCode Tryz.f44 0) (a, (k_, i)) key_laws_markNodeS) (by kernel_rfl)
theorem laws_markNodeS_eq (a : Bool × List DNode) (k_ : Int) : laws_markNodeS a k_ =
(laws_markNodeS_L0 (a.1, a.2) k_ 0).bind fun r =>
 some ((r.1.1, r.1.2), r.2) := Eq.trans (inf_call_eq (H := H) 44 (a, k_)) (by kernel_rfl)
theorem laws_markChangeS_L0_eq (a : Bool × List DChange) (k_ : Int) (i : Int) : laws_markChangeS_L0 a k_ i =
 bif decide (i < (a.2.length : Int)) then
 bif decide (0 ≤ i) then
 bif decide (i < (a.2.length : Int)) then
 bif decide (0 ≤ i) then
 bif decide (i < ((a.2.set (Int.toNat i) (k_, (a.2.getD (Int.toNat i) (0, (true, []))).2)).length : Int)) then
(laws_markNodeS ((((a.2.set (Int.toNat i) (k_, (a.2.getD (Int.toNat i) (0, (true, []))).2)).getD (Int.toNat i) (0, (true, []))).2).1, (((a.2.set (Int.toNat i) (k_, (a.2.getD (Int.toNat i) (0, (true, []))).2)).getD (Int.toNat i) (0, (true, []))).2).2) (IntKind.i64.wrap (k_ + 1))).bind fun r =>
(laws_markChangeS_L0 (a.1, ((a.2.set (Int.toNat i) (k_, (a.2.getD (Int.toNat i) (0, (true, []))).2)).set (Int.toNat i) (((a.2.set (Int.toNat i) (k_, (a.2.getD (Int.toNat i) (0, (true, []))).2)).getD (Int.toNat i) (0, (true, []))).1, (r.1.1, r.1.2)))) r.2 (IntKind.i64.wrap (i + 1))).bind fun r => some r
else none
else none
else none
else none
else 
 some ((a.1, a.2), k_) := Eq.trans (inf_loop_eq (H := H) 155 0 (loopCode Tryz.f155 0) (a, (k_, i)) key_laws_markChangeS) (by kernel_rfl)
theorem laws_markChangeS_eq (a : Bool × List DChange) (k_ : Int) : laws_markChangeS a k_ =
(laws_markChangeS_L0 (a.1, a.2) k_ 0).bind fun r =>
 some ((r.1.1, r.1.2), r.2) := Eq.trans (inf_call_eq (H := H) 155 (a, k_)) (by kernel_rfl)
theorem laws_markCommandS_L0_eq (a : Bool × List DCommand) (k_ : Int) (i : Int) : laws_markCommandS_L0 a k_ i =
 bif decide (i < (a.2.length : Int)) then
 bif decide (0 ≤ i) then
 bif decide (i < (a.2.length : Int)) then
(laws_markNodeS (((a.2.getD (Int.toNat i) ((true, []), (true, []))).1).1, ((a.2.getD (Int.toNat i) ((true, []), (true, []))).1).2) k_).bind fun r =>
 bif decide (0 ≤ i) then
 bif decide (i < (a.2.length : Int)) then
(laws_markChangeS ((((a.2.set (Int.toNat i) ((r.1.1, r.1.2), (a.2.getD (Int.toNat i) ((true, []), (true, []))).2)).getD (Int.toNat i) ((true, []), (true, []))).2).1, (((a.2.set (Int.toNat i) ((r.1.1, r.1.2), (a.2.getD (Int.toNat i) ((true, []), (true, []))).2)).getD (Int.toNat i) ((true, []), (true, []))).2).2) r.2).bind fun r1 =>
(laws_markCommandS_L0 (a.1, ((a.2.set (Int.toNat i) ((r.1.1, r.1.2), (a.2.getD (Int.toNat i) ((true, []), (true, []))).2)).set (Int.toNat i) (((a.2.set (Int.toNat i) ((r.1.1, r.1.2), (a.2.getD (Int.toNat i) ((true, []), (true, []))).2)).getD (Int.toNat i) ((true, []), (true, []))).1, (r1.1.1, r1.1.2)))) r1.2 (IntKind.i64.wrap (i + 1))).bind fun r => some r
else none
else none
else none
else none
else 
 some ((a.1, a.2), k_) := Eq.trans (inf_loop_eq (H := H) 79 0 (loopCode Tryz.f79 0) (a, (k_, i)) key_laws_markCommandS) (by kernel_rfl)
theorem laws_markCommandS_eq (a : Bool × List DCommand) (k_ : Int) : laws_markCommandS a k_ =
(laws_markCommandS_L0 (a.1, a.2) k_ 0).bind fun r =>
 some ((r.1.1, r.1.2), r.2) := Eq.trans (inf_call_eq (H := H) 79 (a, k_)) (by kernel_rfl)
theorem laws_markProgram_eq (a0_0 : Int) (a0_1 : Int) (a0_2 : Bool × List DNode) (a0_3 : Bool × List DCommand) (k_ : Int) : laws_markProgram a0_0 a0_1 a0_2 a0_3 k_ =
(laws_markNodeS (a0_2.1, a0_2.2) k_).bind fun r =>
(laws_markCommandS (a0_3.1, a0_3.2) r.2).bind fun r1 =>
 some ((r.1.1, r.1.2), ((r1.1.1, r1.1.2), r1.2)) := Eq.trans (inf_call_eq (H := H) 33 (a0_0, (a0_1, (a0_2, (a0_3, k_))))) (by kernel_rfl)
theorem laws_markIntS_L0_eq (a : Bool × List Int) (k_ : Int) (i : Int) : laws_markIntS_L0 a k_ i =
 bif decide (i < (a.2.length : Int)) then
 bif decide (0 ≤ i) then
 bif decide (i < (a.2.length : Int)) then
(laws_markIntS_L0 (a.1, (a.2.set (Int.toNat i) k_)) (IntKind.i64.wrap (k_ + 1)) (IntKind.i64.wrap (i + 1))).bind fun r => some r
else none
else none
else 
 some ((a.1, a.2), k_) := Eq.trans (inf_loop_eq (H := H) 34 0 (loopCode Tryz.f34 0) (a, (k_, i)) key_laws_markIntS) (by kernel_rfl)
theorem laws_markIntS_eq (a : Bool × List Int) (k_ : Int) : laws_markIntS a k_ =
(laws_markIntS_L0 (a.1, a.2) k_ 0).bind fun r =>
 some ((r.1.1, r.1.2), r.2) := Eq.trans (inf_call_eq (H := H) 34 (a, k_)) (by kernel_rfl)
theorem laws_markSight_eq (a : Bool × List Int) (k_ : Int) : laws_markSight a k_ =
(laws_markIntS (a.1, a.2) k_).bind fun r =>
 some ((r.1.1, r.1.2), r.2) := Eq.trans (inf_call_eq (H := H) 22 (a, k_)) (by kernel_rfl)
theorem laws_heldIntS_L0_eq (a : Bool × List Int) (k_ : Int) (i : Int) : laws_heldIntS_L0 a k_ i =
 bif decide (i < (a.2.length : Int)) then
 bif decide (0 ≤ i) then
 bif decide (i < (a.2.length : Int)) then
 bif ((a.2.getD (Int.toNat i) 0) != k_) then
 some (.inl (-1))
else 
(laws_heldIntS_L0 a (IntKind.i64.wrap (k_ + 1)) (IntKind.i64.wrap (i + 1))).bind fun r => some r
else none
else none
else 
 some (.inr k_) := Eq.trans (inf_loop_eq (H := H) 35 0 (loopCode Tryz.f35 0) (a, (k_, i)) key_laws_heldIntS) (by kernel_rfl)
theorem laws_heldIntS_eq (a : Bool × List Int) (k_ : Int) : laws_heldIntS a k_ =
(laws_heldIntS_L0 a k_ 0).bind fun r =>
 match r with
| .inl y =>
 some y
| .inr z =>
 some z := Eq.trans (inf_call_eq (H := H) 35 (a, k_)) (by kernel_rfl)
theorem laws_FnExactRealPath_eq (aP : DProgram) (aV : DSight) (aPath : Bool × List Int) : laws_FnExactRealPath aP aV aPath =
 bif decide ((aPath.2.length : Int) > 1048576) then
 some true
else 
(laws_szProgram aP 1048576).bind fun r =>
 bif decide (r < 0) then
 some true
else 
(laws_szSight aV r).bind fun r1 =>
 bif decide (r1 < 0) then
 some true
else 
(laws_toProgram aP).bind fun r2 =>
(laws_toSight aV).bind fun r3 =>
(laws_toIntS aPath).bind fun r4 =>
(spec_RealPath (r2.1, (r2.2.1, ((r2.2.2.1.1, r2.2.2.1.2), (r2.2.2.2.1, r2.2.2.2.2)))) (r3.1, r3.2) (r4.1, r4.2)).bind fun r5 =>
(laws_toProgram aP).bind fun r6 =>
(laws_toSight aV).bind fun r7 =>
(laws_toIntS aPath).bind fun r8 =>
(impl_RealPath (r6.1, (r6.2.1, ((r6.2.2.1.1, r6.2.2.1.2), (r6.2.2.2.1, r6.2.2.2.2)))) (r7.1, r7.2) (r8.1, r8.2)).bind fun r9 =>
(laws_eqIntS (r9.1.1, r9.1.2) (r5.1.1, r5.1.2)).bind fun r10 =>
 bif !r10 then
 some false
else 
 bif !(r9.2 == r5.2) then
 some false
else 
(laws_toProgram aP).bind fun r11 =>
(laws_eqProgram (r6.1, (r6.2.1, ((r6.2.2.1.1, r6.2.2.1.2), (r6.2.2.2.1, r6.2.2.2.2)))) (r11.1, (r11.2.1, ((r11.2.2.1.1, r11.2.2.1.2), (r11.2.2.2.1, r11.2.2.2.2))))).bind fun r12 =>
 bif !r12 then
 some false
else 
(laws_toSight aV).bind fun r13 =>
(laws_eqSight (r7.1, r7.2) (r13.1, r13.2)).bind fun r14 =>
 bif !r14 then
 some false
else 
(laws_toIntS aPath).bind fun r15 =>
(laws_eqIntS (r8.1, r8.2) (r15.1, r15.2)).bind fun r16 =>
 bif !r16 then
 some false
else 
(laws_markProgram r6.1 r6.2.1 (r6.2.2.1.1, r6.2.2.1.2) (r6.2.2.2.1, r6.2.2.2.2) 1).bind fun r17 =>
(laws_markSight (r7.1, r7.2) r17.2.2).bind fun r18 =>
(laws_markIntS (r8.1, r8.2) r18.2).bind fun r19 =>
 bif decide (r19.2 < 0) then
 some false
else 
(laws_eqIntS (r9.1.1, r9.1.2) (r5.1.1, r5.1.2)).bind fun r20 =>
 bif !r20 then
 some false
else 
 bif !(r9.2 == r5.2) then
 some false
else 
(laws_markIntS (r9.1.1, r9.1.2) 1).bind fun r21 =>
(laws_heldIntS (r21.1.1, r21.1.2) 1).bind fun r22 =>
 bif decide (r22 < 0) then
 some false
else 
 bif (r22 != r21.2) then
 some false
else 
(laws_toProgram aP).bind fun r23 =>
(laws_toSight aV).bind fun r24 =>
(laws_toIntS aPath).bind fun r25 =>
(impl_RealPath (r23.1, (r23.2.1, ((r23.2.2.1.1, r23.2.2.1.2), (r23.2.2.2.1, r23.2.2.2.2)))) (r24.1, r24.2) (r25.1, r25.2)).bind fun r26 =>
(laws_eqIntS (r26.1.1, r26.1.2) (r5.1.1, r5.1.2)).bind fun r27 =>
 bif !r27 then
 some false
else 
 bif !(r26.2 == r5.2) then
 some false
else 
(laws_heldIntS (r21.1.1, r21.1.2) 1).bind fun r28 =>
 bif decide (r28 < 0) then
 some false
else 
 bif (r28 != r21.2) then
 some false
else 
 some true := Eq.trans (inf_call_eq (H := H) 4 (aP, (aV, aPath))) (by kernel_rfl)
theorem fit : Fit Tryz.prog H := fit_of (exts := extsL) (tys := tysL) (cells := cellsL) (keys := keysL) (mtys := mtysL) rfl rfl rfl rfl rfl (by kernel_rfl) (by kernel_rfl) (by kernel_rfl) ⟨⟨Tryz.func38, by kernel_rfl, by kernel_rfl⟩, ⟨Tryz.func287, by kernel_rfl, by kernel_rfl⟩, ⟨Tryz.func211, by kernel_rfl, by kernel_rfl⟩, ⟨Tryz.func135, by kernel_rfl, by kernel_rfl⟩, ⟨Tryz.func69, by kernel_rfl, by kernel_rfl⟩, ⟨Tryz.func24, by kernel_rfl, by kernel_rfl⟩, ⟨Tryz.func70, by kernel_rfl, by kernel_rfl⟩, ⟨Tryz.func25, by kernel_rfl, by kernel_rfl⟩, ⟨Tryz.func89, by kernel_rfl, by kernel_rfl⟩, ⟨Tryz.func40, by kernel_rfl, by kernel_rfl⟩, ⟨Tryz.func288, by kernel_rfl, by kernel_rfl⟩, ⟨Tryz.func217, by kernel_rfl, by kernel_rfl⟩, ⟨Tryz.func141, by kernel_rfl, by kernel_rfl⟩, ⟨Tryz.func75, by kernel_rfl, by kernel_rfl⟩, ⟨Tryz.func27, by kernel_rfl, by kernel_rfl⟩, ⟨Tryz.func29, by kernel_rfl, by kernel_rfl⟩, ⟨Tryz.func28, by kernel_rfl, by kernel_rfl⟩, ⟨Tryz.func116, by kernel_rfl, by kernel_rfl⟩, ⟨Tryz.func272, by kernel_rfl, by kernel_rfl⟩, ⟨Tryz.func273, by kernel_rfl, by kernel_rfl⟩, ⟨Tryz.func307, by kernel_rfl, by kernel_rfl⟩, ⟨Tryz.func330, by kernel_rfl, by kernel_rfl⟩, ⟨Tryz.func274, by kernel_rfl, by kernel_rfl⟩, ⟨Tryz.func203, by kernel_rfl, by kernel_rfl⟩, ⟨Tryz.func123, by kernel_rfl, by kernel_rfl⟩, ⟨Tryz.func269, by kernel_rfl, by kernel_rfl⟩, ⟨Tryz.func200, by kernel_rfl, by kernel_rfl⟩, ⟨Tryz.func121, by kernel_rfl, by kernel_rfl⟩, ⟨Tryz.func159, by kernel_rfl, by kernel_rfl⟩, ⟨Tryz.func136, by kernel_rfl, by kernel_rfl⟩, ⟨Tryz.func188, by kernel_rfl, by kernel_rfl⟩, ⟨Tryz.func212, by kernel_rfl, by kernel_rfl⟩, ⟨Tryz.func137, by kernel_rfl, by kernel_rfl⟩, ⟨Tryz.func71, by kernel_rfl, by kernel_rfl⟩, ⟨Tryz.func176, by kernel_rfl, by kernel_rfl⟩, ⟨Tryz.func309, by kernel_rfl, by kernel_rfl⟩, ⟨Tryz.func369, by kernel_rfl, by kernel_rfl⟩, ⟨Tryz.func343, by kernel_rfl, by kernel_rfl⟩, ⟨Tryz.func344, by kernel_rfl, by kernel_rfl⟩, ⟨Tryz.func345, by kernel_rfl, by kernel_rfl⟩, ⟨Tryz.func346, by kernel_rfl, by kernel_rfl⟩, ⟨Tryz.func308, by kernel_rfl, by kernel_rfl⟩, ⟨Tryz.func240, by kernel_rfl, by kernel_rfl⟩, ⟨Tryz.func175, by kernel_rfl, by kernel_rfl⟩, ⟨Tryz.func99, by kernel_rfl, by kernel_rfl⟩, ⟨Tryz.func214, by kernel_rfl, by kernel_rfl⟩, ⟨Tryz.func216, by kernel_rfl, by kernel_rfl⟩, ⟨Tryz.func215, by kernel_rfl, by kernel_rfl⟩, ⟨Tryz.func213, by kernel_rfl, by kernel_rfl⟩, ⟨Tryz.func140, by kernel_rfl, by kernel_rfl⟩, ⟨Tryz.func138, by kernel_rfl, by kernel_rfl⟩, ⟨Tryz.func72, by kernel_rfl, by kernel_rfl⟩, ⟨Tryz.func73, by kernel_rfl, by kernel_rfl⟩, ⟨Tryz.func98, by kernel_rfl, by kernel_rfl⟩, ⟨Tryz.func139, by kernel_rfl, by kernel_rfl⟩, ⟨Tryz.func74, by kernel_rfl, by kernel_rfl⟩, ⟨Tryz.func26, by kernel_rfl, by kernel_rfl⟩, ⟨Tryz.func275, by kernel_rfl, by kernel_rfl⟩, ⟨Tryz.func276, by kernel_rfl, by kernel_rfl⟩, ⟨Tryz.func334, by kernel_rfl, by kernel_rfl⟩, ⟨Tryz.func183, by kernel_rfl, by kernel_rfl⟩, ⟨Tryz.func364, by kernel_rfl, by kernel_rfl⟩, ⟨Tryz.func335, by kernel_rfl, by kernel_rfl⟩, ⟨Tryz.func336, by kernel_rfl, by kernel_rfl⟩, ⟨Tryz.func152, by kernel_rfl, by kernel_rfl⟩, ⟨Tryz.func144, by kernel_rfl, by kernel_rfl⟩, ⟨Tryz.func284, by kernel_rfl, by kernel_rfl⟩, ⟨Tryz.func285, by kernel_rfl, by kernel_rfl⟩, ⟨Tryz.func208, by kernel_rfl, by kernel_rfl⟩, ⟨Tryz.func129, by kernel_rfl, by kernel_rfl⟩, ⟨Tryz.func279, by kernel_rfl, by kernel_rfl⟩, ⟨Tryz.func278, by kernel_rfl, by kernel_rfl⟩, ⟨Tryz.func331, by kernel_rfl, by kernel_rfl⟩, ⟨Tryz.func277, by kernel_rfl, by kernel_rfl⟩, ⟨Tryz.func204, by kernel_rfl, by kernel_rfl⟩, ⟨Tryz.func125, by kernel_rfl, by kernel_rfl⟩, ⟨Tryz.func131, by kernel_rfl, by kernel_rfl⟩, ⟨Tryz.func218, by kernel_rfl, by kernel_rfl⟩, ⟨Tryz.func142, by kernel_rfl, by kernel_rfl⟩, ⟨Tryz.func219, by kernel_rfl, by kernel_rfl⟩, ⟨Tryz.func143, by kernel_rfl, by kernel_rfl⟩, ⟨Tryz.func145, by kernel_rfl, by kernel_rfl⟩, ⟨Tryz.func152, by kernel_rfl, by kernel_rfl⟩, ⟨Tryz.func144, by kernel_rfl, by kernel_rfl⟩, ⟨Tryz.func76, by kernel_rfl, by kernel_rfl⟩, ⟨Tryz.func106, by kernel_rfl, by kernel_rfl⟩, ⟨Tryz.func347, by kernel_rfl, by kernel_rfl⟩, ⟨Tryz.func348, by kernel_rfl, by kernel_rfl⟩, ⟨Tryz.func311, by kernel_rfl, by kernel_rfl⟩, ⟨Tryz.func312, by kernel_rfl, by kernel_rfl⟩, ⟨Tryz.func313, by kernel_rfl, by kernel_rfl⟩, ⟨Tryz.func314, by kernel_rfl, by kernel_rfl⟩, ⟨Tryz.func243, by kernel_rfl, by kernel_rfl⟩, ⟨Tryz.func182, by kernel_rfl, by kernel_rfl⟩, ⟨Tryz.func105, by kernel_rfl, by kernel_rfl⟩, ⟨Tryz.func337, by kernel_rfl, by kernel_rfl⟩, ⟨Tryz.func290, by kernel_rfl, by kernel_rfl⟩, ⟨Tryz.func289, by kernel_rfl, by kernel_rfl⟩, ⟨Tryz.func282, by kernel_rfl, by kernel_rfl⟩, ⟨Tryz.func283, by kernel_rfl, by kernel_rfl⟩, ⟨Tryz.func222, by kernel_rfl, by kernel_rfl⟩, ⟨Tryz.func147, by kernel_rfl, by kernel_rfl⟩, ⟨Tryz.func172, by kernel_rfl, by kernel_rfl⟩, ⟨Tryz.func220, by kernel_rfl, by kernel_rfl⟩, ⟨Tryz.func221, by kernel_rfl, by kernel_rfl⟩, ⟨Tryz.func152, by kernel_rfl, by kernel_rfl⟩, ⟨Tryz.func149, by kernel_rfl, by kernel_rfl⟩, ⟨Tryz.func158, by kernel_rfl, by kernel_rfl⟩, ⟨Tryz.func146, by kernel_rfl, by kernel_rfl⟩, ⟨Tryz.func224, by kernel_rfl, by kernel_rfl⟩, ⟨Tryz.func223, by kernel_rfl, by kernel_rfl⟩, ⟨Tryz.func148, by kernel_rfl, by kernel_rfl⟩, ⟨Tryz.func173, by kernel_rfl, by kernel_rfl⟩, ⟨Tryz.func96, by kernel_rfl, by kernel_rfl⟩, ⟨Tryz.func151, by kernel_rfl, by kernel_rfl⟩, ⟨Tryz.func152, by kernel_rfl, by kernel_rfl⟩, ⟨Tryz.func144, by kernel_rfl, by kernel_rfl⟩, ⟨Tryz.func150, by kernel_rfl, by kernel_rfl⟩, ⟨Tryz.func152, by kernel_rfl, by kernel_rfl⟩, ⟨Tryz.func149, by kernel_rfl, by kernel_rfl⟩, ⟨Tryz.func151, by kernel_rfl, by kernel_rfl⟩, ⟨Tryz.func152, by kernel_rfl, by kernel_rfl⟩, ⟨Tryz.func144, by kernel_rfl, by kernel_rfl⟩, ⟨Tryz.func150, by kernel_rfl, by kernel_rfl⟩, ⟨Tryz.func152, by kernel_rfl, by kernel_rfl⟩, ⟨Tryz.func149, by kernel_rfl, by kernel_rfl⟩, ⟨Tryz.func153, by kernel_rfl, by kernel_rfl⟩, ⟨Tryz.func152, by kernel_rfl, by kernel_rfl⟩, ⟨Tryz.func77, by kernel_rfl, by kernel_rfl⟩, ⟨Tryz.func30, by kernel_rfl, by kernel_rfl⟩, ⟨Tryz.func31, by kernel_rfl, by kernel_rfl⟩, ⟨Tryz.func92, by kernel_rfl, by kernel_rfl⟩, ⟨Tryz.func43, by kernel_rfl, by kernel_rfl⟩, ⟨Tryz.func291, by kernel_rfl, by kernel_rfl⟩, ⟨Tryz.func225, by kernel_rfl, by kernel_rfl⟩, ⟨Tryz.func154, by kernel_rfl, by kernel_rfl⟩, ⟨Tryz.func78, by kernel_rfl, by kernel_rfl⟩, ⟨Tryz.func32, by kernel_rfl, by kernel_rfl⟩, ⟨Tryz.func17, by kernel_rfl, by kernel_rfl⟩, ⟨Tryz.func44, by kernel_rfl, by kernel_rfl⟩, ⟨Tryz.func155, by kernel_rfl, by kernel_rfl⟩, ⟨Tryz.func79, by kernel_rfl, by kernel_rfl⟩, ⟨Tryz.func33, by kernel_rfl, by kernel_rfl⟩, ⟨Tryz.func34, by kernel_rfl, by kernel_rfl⟩, ⟨Tryz.func22, by kernel_rfl, by kernel_rfl⟩, ⟨Tryz.func35, by kernel_rfl, by kernel_rfl⟩, ⟨Tryz.func4, by kernel_rfl, by kernel_rfl⟩, trivial⟩ trivial (by kernel_rfl)
theorem nats : NatOk Tryz.prog H := nat_of (keys := keysL) rfl ⟨.plain rfl, .plain rfl, .plain rfl, .plain rfl, .plain rfl, .plain rfl, .plain rfl, .plain rfl, .plain rfl, .plain rfl, .plain rfl, .plain rfl, .plain rfl, .plain rfl, .plain rfl, .plain rfl, .plain rfl, .plain rfl, .plain rfl, .plain rfl, .plain rfl, .plain rfl, .plain rfl, .plain rfl, .plain rfl, .plain rfl, .plain rfl, .plain rfl, .plain rfl, .plain rfl, .plain rfl, .plain rfl, .plain rfl, .plain rfl, .plain rfl, .plain rfl, .plain rfl, .plain rfl, .plain rfl, .plain rfl, .plain rfl, .plain rfl, .plain rfl, .plain rfl, .plain rfl, .plain rfl, .plain rfl, .plain rfl, .plain rfl, .plain rfl, .plain rfl, .plain rfl, .plain rfl, .plain rfl, .plain rfl, .plain rfl, .plain rfl, .plain rfl, .plain rfl, .plain rfl, .plain rfl, .plain rfl, .plain rfl, .plain rfl, .plain rfl, .plain rfl, .plain rfl, .plain rfl, .plain rfl, .plain rfl, .plain rfl, .plain rfl, .plain rfl, .plain rfl, .plain rfl, .plain rfl, .plain rfl, .plain rfl, .plain rfl, .plain rfl, .plain rfl, .plain rfl, .plain rfl, .plain rfl, .plain rfl, .plain rfl, .plain rfl, .plain rfl, .plain rfl, .plain rfl, .plain rfl, .plain rfl, .plain rfl, .plain rfl, .plain rfl, .plain rfl, .plain rfl, .plain rfl, .sort Tryz.sortOk, .compact (by decide) Tryz.compactOk, .plain rfl, .plain rfl, .plain rfl, .plain rfl, .plain rfl, .plain rfl, .plain rfl, .plain rfl, .plain rfl, .plain rfl, .plain rfl, .plain rfl, .plain rfl, .plain rfl, .plain rfl, .plain rfl, .plain rfl, .plain rfl, .plain rfl, .plain rfl, .plain rfl, .plain rfl, .plain rfl, .plain rfl, .plain rfl, .plain rfl, .plain rfl, .plain rfl, .plain rfl, .plain rfl, .plain rfl, .plain rfl, .plain rfl, .plain rfl, .plain rfl, .plain rfl, .plain rfl, .plain rfl, .plain rfl, .plain rfl, .plain rfl, .plain rfl, .plain rfl, .plain rfl, .plain rfl, .plain rfl, .plain rfl, trivial⟩
end Go.Proofs.YtkfnlnohgfpipaaGreat.R
