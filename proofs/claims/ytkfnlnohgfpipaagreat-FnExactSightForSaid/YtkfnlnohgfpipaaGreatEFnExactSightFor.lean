/- Kinds, signatures and loops of the functions that the laws reach, and what each computes. -/
import Derived.Test.YtkfnlnohgfpipaaGreatRfD
import Derived.Test.YtkfnlnohgfpipaaGreatProg
import Derived.KernelRfl
import Derived.Test.YtkfnlnohgfpipaaGreatShelf
set_option linter.unusedVariables false
namespace Go.Proofs.YtkfnlnohgfpipaaGreat.R
open Go.Rf Go.Proofs
def tyNode : Ty := (.pair (.int .i64) (.int .u64))
abbrev DNode := Int × Int
def tySaid : Ty := (.pair (.int .i64) (.int .i64))
abbrev DSaid := Int × Int
def tySight : Ty := (.one (.sl (.int .i64)))
abbrev DSight := Bool × List Int
def tyLasso : Ty := (.pair (.sl (.int .i64)) (.sl (.int .i64)))
abbrev DLasso := (Bool × List Int) × Bool × List Int
def tyEdge : Ty := (.pair (.int .i64) tySaid)
abbrev DEdge := Int × DSaid
def tyboundsError : Ty := (.pair (.int .i64) (.pair (.int .i64) (.pair .bool (.int .u8))))
abbrev DboundsError := Int × Int × Bool × Int
def tyChange : Ty := (.pair (.int .i64) (.sl tyNode))
abbrev DChange := Int × Bool × List DNode
def tyl11Walk : Ty := (.pair (.sl (.sl (.int .i64))) (.pair (.sl .bool) (.sl (.int .i64))))
abbrev Dl11Walk := (Bool × List (Bool × List Int)) × (Bool × List Bool) × Bool × List Int
def tyFinding : Ty := (.pair (.int .i64) (.pair (.sl (.int .i64)) (.pair (.int .i64) tySight)))
abbrev DFinding := Int × (Bool × List Int) × Int × DSight
def tyCommand : Ty := (.pair (.sl tyNode) (.sl tyChange))
abbrev DCommand := (Bool × List DNode) × Bool × List DChange
def tyOutcome : Ty := (.pair (.int .i64) (.pair (.sl (.int .i64)) (.pair (.sl (.int .i64)) (.pair (.int .i64) tySight))))
abbrev DOutcome := Int × (Bool × List Int) × (Bool × List Int) × Int × DSight
def tyAuto : Ty := (.pair (.int .i64) (.pair (.sl (.int .i64)) (.pair (.sl tyEdge) (.sl (.sl (.int .i64))))))
abbrev DAuto := Int × (Bool × List Int) × (Bool × List DEdge) × Bool × List (Bool × List Int)
def tytarjan : Ty := (.pair (.sl (.sl (.int .i64))) (.pair (.sl (.int .i64)) (.pair (.sl (.int .i64)) (.pair (.sl (.int .i64)) (.pair (.sl (.int .i64)) (.int .i64))))))
abbrev Dtarjan := (Bool × List (Bool × List Int)) × (Bool × List Int) × (Bool × List Int) × (Bool × List Int) × (Bool × List Int) × Int
def tyProgram : Ty := (.pair (.int .i64) (.pair (.int .i64) (.pair (.sl tyNode) (.sl tyCommand))))
abbrev DProgram := Int × Int × (Bool × List DNode) × Bool × List DCommand
def tyQuestion : Ty := (.pair tyProgram (.pair (.sl (.sl tyNode)) (.sl tySaid)))
abbrev DQuestion := DProgram × (Bool × List (Bool × List DNode)) × Bool × List DSaid
noncomputable def h_laws_szNodeS : FnH := ⟨38, Tryz.f38, (.tup (.v (.sl tyNode)) (.tup (.v (.int .i64)) .unit)), (.tup (.v (.int .i64)) .unit), [], [], [], [], [], none⟩
noncomputable def h_laws_szChange : FnH := ⟨287, Tryz.f287, (.tup (.v tyChange) (.tup (.v (.int .i64)) .unit)), (.tup (.v (.int .i64)) .unit), [], [], [], [], [], none⟩
noncomputable def h_laws_szChangeS : FnH := ⟨211, Tryz.f211, (.tup (.v (.sl tyChange)) (.tup (.v (.int .i64)) .unit)), (.tup (.v (.int .i64)) .unit), [], [], [(0, ⟨[(0, (.v (.sl tyChange))), (1, (.v (.int .i64))), (5, (.v (.int .i64)))], [(.ret, [(4, (.v (.int .i64)))]), (.exit 0, [(1, (.v (.int .i64)))])], []⟩)], [], [], none⟩
noncomputable def h_laws_szCommand : FnH := ⟨135, Tryz.f135, (.tup (.v tyCommand) (.tup (.v (.int .i64)) .unit)), (.tup (.v (.int .i64)) .unit), [], [], [], [], [], none⟩
noncomputable def h_laws_szCommandS : FnH := ⟨69, Tryz.f69, (.tup (.v (.sl tyCommand)) (.tup (.v (.int .i64)) .unit)), (.tup (.v (.int .i64)) .unit), [], [], [(0, ⟨[(0, (.v (.sl tyCommand))), (1, (.v (.int .i64))), (5, (.v (.int .i64)))], [(.ret, [(4, (.v (.int .i64)))]), (.exit 0, [(1, (.v (.int .i64)))])], []⟩)], [], [], none⟩
noncomputable def h_laws_szProgram : FnH := ⟨24, Tryz.f24, (.tup (.v tyProgram) (.tup (.v (.int .i64)) .unit)), (.tup (.v (.int .i64)) .unit), [], [], [], [], [], none⟩
noncomputable def h_laws_szNodeSS : FnH := ⟨12, Tryz.f12, (.tup (.v (.sl (.sl tyNode))) (.tup (.v (.int .i64)) .unit)), (.tup (.v (.int .i64)) .unit), [], [], [(0, ⟨[(0, (.v (.sl (.sl tyNode)))), (1, (.v (.int .i64))), (5, (.v (.int .i64)))], [(.ret, [(4, (.v (.int .i64)))]), (.exit 0, [(1, (.v (.int .i64)))])], []⟩)], [], [], none⟩
noncomputable def h_laws_szSaidS : FnH := ⟨58, Tryz.f58, (.tup (.v (.sl tySaid)) (.tup (.v (.int .i64)) .unit)), (.tup (.v (.int .i64)) .unit), [], [], [], [], [], none⟩
noncomputable def h_laws_szQuestion : FnH := ⟨11, Tryz.f11, (.tup (.v tyQuestion) (.tup (.v (.int .i64)) .unit)), (.tup (.v (.int .i64)) .unit), [], [], [], [], [], none⟩
noncomputable def h_laws_toNode : FnH := ⟨89, Tryz.f89, (.tup (.v tyNode) .unit), (.tup (.v tyNode) .unit), [], [], [], [], [], none⟩
noncomputable def h_laws_toNodeS : FnH := ⟨40, Tryz.f40, (.tup (.v (.sl tyNode)) .unit), (.tup (.own 206850 tyNode true) .unit), [], [], [(0, ⟨[(0, (.v (.sl tyNode))), (3, (.own 206849 tyNode true)), (4, (.v (.int .i64)))], [(.exit 0, [(1206849, (.own 206849 tyNode true))])], [3]⟩)], [], [], none⟩
noncomputable def h_laws_toChange : FnH := ⟨288, Tryz.f288, (.tup (.v tyChange) .unit), (.tup (.pair (.v (.int .i64)) (.own 206851 tyNode true)) .unit), [], [], [], [], [], none⟩
noncomputable def h_laws_toChangeS : FnH := ⟨217, Tryz.f217, (.tup (.v (.sl tyChange)) .unit), (.tup (.own 206853 tyChange true) .unit), [], [], [(0, ⟨[(0, (.v (.sl tyChange))), (3, (.own 206852 tyChange true)), (4, (.v (.int .i64)))], [(.exit 0, [(1206852, (.own 206852 tyChange true))])], [3]⟩)], [], [], none⟩
noncomputable def h_laws_toCommand : FnH := ⟨141, Tryz.f141, (.tup (.v tyCommand) .unit), (.tup (.pair (.own 206854 tyNode true) (.own 206855 tyChange true)) .unit), [], [], [], [], [], none⟩
noncomputable def h_laws_toCommandS : FnH := ⟨75, Tryz.f75, (.tup (.v (.sl tyCommand)) .unit), (.tup (.own 206857 tyCommand true) .unit), [], [], [(0, ⟨[(0, (.v (.sl tyCommand))), (3, (.own 206856 tyCommand true)), (4, (.v (.int .i64)))], [(.exit 0, [(1206856, (.own 206856 tyCommand true))])], [3]⟩)], [], [], none⟩
noncomputable def h_laws_toProgram : FnH := ⟨27, Tryz.f27, (.tup (.v tyProgram) .unit), (.tup (.pair (.v (.int .i64)) (.pair (.v (.int .i64)) (.pair (.own 206858 tyNode true) (.own 206859 tyCommand true)))) .unit), [], [], [], [], [], none⟩
noncomputable def h_laws_toNodeSS : FnH := ⟨15, Tryz.f15, (.tup (.v (.sl (.sl tyNode))) .unit), (.tup (.own 206861 (.sl tyNode) true) .unit), [], [], [(0, ⟨[(0, (.v (.sl (.sl tyNode)))), (3, (.own 206860 (.sl tyNode) true)), (4, (.v (.int .i64)))], [(.exit 0, [(1206860, (.own 206860 (.sl tyNode) true))])], [3]⟩)], [], [], none⟩
noncomputable def h_laws_toSaid : FnH := ⟨124, Tryz.f124, (.tup (.v tySaid) .unit), (.tup (.v tySaid) .unit), [], [], [], [], [], none⟩
noncomputable def h_laws_toSaidS : FnH := ⟨62, Tryz.f62, (.tup (.v (.sl tySaid)) .unit), (.tup (.own 206863 tySaid true) .unit), [], [], [(0, ⟨[(0, (.v (.sl tySaid))), (3, (.own 206862 tySaid true)), (4, (.v (.int .i64)))], [(.exit 0, [(1206862, (.own 206862 tySaid true))])], [3]⟩)], [], [], none⟩
noncomputable def h_laws_toQuestion : FnH := ⟨14, Tryz.f14, (.tup (.v tyQuestion) .unit), (.tup (.pair (.pair (.v (.int .i64)) (.pair (.v (.int .i64)) (.pair (.own 206864 tyNode true) (.own 206865 tyCommand true)))) (.pair (.own 206866 (.sl tyNode) true) (.own 206867 tySaid true))) .unit), [], [], [], [], [], none⟩
noncomputable def h_spec_l1In : FnH := ⟨116, Tryz.f116, (.tup (.v (.int .i64)) (.tup (.v (.int .i64)) (.tup (.v (.int .i64)) .unit))), (.tup (.v .bool) .unit), [], [], [], [], [], none⟩
noncomputable def h_spec_l1Wide : FnH := ⟨272, Tryz.f272, (.tup (.v (.int .i64)) .unit), (.tup (.v .bool) .unit), [], [], [], [], [], none⟩
noncomputable def h_spec_l2Need : FnH := ⟨273, Tryz.f273, (.tup (.v (.int .i64)) .unit), (.tup (.v (.int .i64)) (.tup (.v (.int .i64)) (.tup (.v (.int .i64)) .unit))), [], [], [], [], [], none⟩
noncomputable def h_spec_l1Cut : FnH := ⟨307, Tryz.f307, (.tup (.v (.int .i64)) (.tup (.v (.int .u64)) .unit)), (.tup (.v (.int .u64)) .unit), [], [], [(0, ⟨[(0, (.v (.int .i64))), (1, (.v (.int .u64))), (5, (.v (.int .u64))), (6, (.v (.int .i64)))], [(.exit 0, [(5, (.v (.int .u64)))])], []⟩)], [], [], none⟩
noncomputable def h_spec_GoodWord : FnH := ⟨330, Tryz.f330, (.tup (.v (.int .i64)) (.tup (.v (.int .u64)) .unit)), (.tup (.v .bool) .unit), [], [], [], [], [], none⟩
noncomputable def h_spec_l2N : FnH := ⟨274, Tryz.f274, (.tup (.v (.int .i64)) (.tup (.v (.int .i64)) (.tup (.v tyNode) .unit))), (.tup (.v .bool) .unit), [], [], [], [], [], none⟩
noncomputable def h_spec_l2Kind : FnH := ⟨203, Tryz.f203, (.tup (.v (.int .i64)) (.tup (.v (.int .i64)) (.tup (.v (.sl tyNode)) .unit))), (.tup (.v (.int .i64)) .unit), [], [], [(0, ⟨[(0, (.v (.int .i64))), (1, (.v (.int .i64))), (7, (.own 206868 (.int .i64) true)), (27, (.v (.sl tyNode))), (28, (.v (.int .i64))), (29, (.v (.int .i64)))], [(.ret, [(6, (.v (.int .i64)))]), (.exit 0, [(7, (.own 206871 (.int .i64) true))])], []⟩), (2, ⟨[(0, (.v (.int .i64))), (1, (.v (.int .i64))), (7, (.own 206869 (.int .i64) true)), (10, (.v (.int .i64))), (11, (.v (.int .i64))), (12, (.v (.int .i64))), (27, (.v (.sl tyNode))), (28, (.v (.int .i64))), (29, (.v (.int .i64)))], [(.ret, [(6, (.v (.int .i64)))]), (.exit 2, [(7, (.own 206870 (.int .i64) true))])], [0, 1, 12, 27, 28, 29]⟩)], [], [], none⟩
noncomputable def h_spec_l7Asks : FnH := ⟨123, Tryz.f123, (.tup (.v tyProgram) (.tup (.v (.sl tyNode)) .unit)), (.tup (.v .bool) .unit), [], [], [], [], [], none⟩
noncomputable def h_spec_l7Command : FnH := ⟨269, Tryz.f269, (.tup (.v tyProgram) (.tup (.v tyCommand) .unit)), (.tup (.v .bool) .unit), [], [], [(0, ⟨[(2, (.sp tyProgram)), (3, (.sp tyCommand)), (21, (.v (.sl tyChange))), (22, (.v (.int .i64))), (23, (.v (.int .i64)))], [(.ret, [(4, (.v .bool))]), (.exit 0, [])], []⟩)], [], [], none⟩
noncomputable def h_spec_GoodProgram : FnH := ⟨200, Tryz.f200, (.tup (.v tyProgram) .unit), (.tup (.v .bool) .unit), [], [], [(0, ⟨[(1, (.sp tyProgram)), (18, (.v (.sl tyCommand))), (19, (.v (.int .i64))), (20, (.v (.int .i64)))], [(.ret, [(2, (.v .bool))]), (.exit 0, [])], []⟩)], [], [], none⟩
noncomputable def h_spec_l7Small : FnH := ⟨121, Tryz.f121, (.tup (.v tyProgram) .unit), (.tup (.v .bool) .unit), [], [], [], [], [], none⟩
noncomputable def h_spec_l10Need : FnH := ⟨270, Tryz.f270, (.tup (.v (.int .i64)) .unit), (.tup (.v (.int .i64)) .unit), [], [], [], [], [], none⟩
noncomputable def h_spec_l10N : FnH := ⟨271, Tryz.f271, (.tup (.v tySaid) .unit), (.tup (.v .bool) .unit), [], [], [], [], [], none⟩
noncomputable def h_spec_GoodSaid : FnH := ⟨201, Tryz.f201, (.tup (.v (.sl tySaid)) .unit), (.tup (.v .bool) .unit), [], [], [(0, ⟨[(3, (.v (.int .i64))), (11, (.v (.sl tySaid))), (12, (.v (.int .i64))), (13, (.v (.int .i64)))], [(.ret, [(2, (.v .bool))]), (.exit 0, [(3, (.v (.int .i64)))])], []⟩)], [], [], none⟩
noncomputable def h_spec_l1Put : FnH := ⟨213, Tryz.f213, (.tup (.v (.sl (.int .i64))) (.tup (.v (.int .i64)) .unit)), (.tup (.v (.sl (.int .i64))) .unit), [], [], [(0, ⟨[(0, (.v (.sl (.int .i64)))), (1, (.v (.int .i64))), (5, (.v (.int .i64)))], [(.exit 0, [(5, (.v (.int .i64)))])], [0, 1]⟩)], [], [], none⟩
noncomputable def h_spec_l13Tracked : FnH := ⟨202, Tryz.f202, (.tup (.v (.sl tySaid)) .unit), (.tup (.v (.sl (.int .i64))) .unit), [], [], [(0, ⟨[(3, (.v (.sl (.int .i64)))), (10, (.v (.sl tySaid))), (11, (.v (.int .i64))), (12, (.v (.int .i64)))], [(.exit 0, [(3, (.v (.sl (.int .i64))))])], []⟩)], [], [], none⟩
noncomputable def h_spec_l13Good : FnH := ⟨122, Tryz.f122, (.tup (.v (.sl tySaid)) .unit), (.tup (.v .bool) .unit), [], [], [], [], [], none⟩
noncomputable def h_spec_GoodQuestion : FnH := ⟨59, Tryz.f59, (.tup (.v tyQuestion) .unit), (.tup (.v .bool) .unit), [], [], [(0, ⟨[(1, (.sp tyQuestion)), (22, (.v (.sl (.sl tyNode)))), (23, (.v (.int .i64))), (24, (.v (.int .i64)))], [(.ret, [(2, (.v .bool))]), (.exit 0, [])], []⟩)], [], [], none⟩
noncomputable def h_spec_l15Preds : FnH := ⟨60, Tryz.f60, (.tup (.v tyProgram) (.tup (.v (.sl (.sl tyNode))) .unit)), (.tup (.v .bool) .unit), [], [], [(0, ⟨[(2, (.sp tyProgram)), (10, (.v (.sl (.sl tyNode)))), (11, (.v (.int .i64))), (12, (.v (.int .i64)))], [(.ret, [(4, (.v .bool))]), (.exit 0, [])], []⟩)], [], [], none⟩
noncomputable def h_spec_l7Many : FnH := ⟨159, Tryz.f159, (.tup (.v tyProgram) .unit), (.tup (.v (.int .i64)) .unit), [], [], [], [], [], none⟩
noncomputable def h_spec_l7Of : FnH := ⟨176, Tryz.f176, (.tup (.v tyProgram) (.tup (.v (.int .i64)) .unit)), (.tup (.own 206877 (.int .u64) true) .unit), [], [], [(0, ⟨[(1, (.v (.int .i64))), (2, (.sp tyProgram)), (5, (.own 206875 (.int .u64) true)), (6, (.v (.int .i64)))], [(.exit 0, [(5, (.own 206876 (.int .u64) true))])], []⟩)], [], [], none⟩
noncomputable def h_spec_l2From : FnH := ⟨309, Tryz.f309, (.tup (.v (.sl tyNode)) (.tup (.v (.int .i64)) .unit)), (.tup (.v (.int .i64)) .unit), [], [], [(0, ⟨[(0, (.v (.sl tyNode))), (5, (.v (.int .i64))), (8, (.v (.int .i64)))], [(.exit 0, [(8, (.v (.int .i64)))])], []⟩)], [], [], none⟩
noncomputable def h_spec_l1Both : FnH := ⟨369, Tryz.f369, (.tup (.v (.int .i64)) (.tup (.v (.int .u64)) (.tup (.v (.int .u64)) .unit))), (.tup (.v .bool) .unit), [], [], [], [], [], none⟩
noncomputable def h_spec_DivWord : FnH := ⟨343, Tryz.f343, (.tup (.v (.int .i64)) (.tup (.v (.int .u64)) (.tup (.v (.int .u64)) .unit))), (.tup (.v (.int .u64)) (.tup (.v (.int .u64)) (.tup (.v .bool) .unit))), [], [], [], [], [], none⟩
noncomputable def h_spec_l1Shift : FnH := ⟨344, Tryz.f344, (.tup (.v (.int .i64)) (.tup (.v (.int .u64)) (.tup (.v (.int .u64)) (.tup (.v .bool) .unit)))), (.tup (.v (.int .u64)) .unit), [], [], [(0, ⟨[(0, (.v (.int .i64))), (1, (.v (.int .u64))), (2, (.v (.int .u64))), (3, (.v .bool))], [(.exit 0, [(1, (.v (.int .u64)))])], []⟩)], [], [], none⟩
noncomputable def h_spec_l2Bool : FnH := ⟨345, Tryz.f345, (.tup (.v .bool) .unit), (.tup (.v (.int .u64)) .unit), [], [], [], [], [], none⟩
noncomputable def h_spec_l1Signed : FnH := ⟨346, Tryz.f346, (.tup (.v (.int .i64)) (.tup (.v (.int .u64)) .unit)), (.tup (.v (.int .i64)) .unit), [], [], [], [], [], none⟩
noncomputable def h_spec_l2Do : FnH := ⟨308, Tryz.f308, (.tup (.v (.int .i64)) (.tup (.v (.int .i64)) (.tup (.v (.int .u64)) (.tup (.v (.int .u64)) .unit)))), (.tup (.v (.int .u64)) .unit), [], [], [], [], [], none⟩
noncomputable def h_spec_l2Value : FnH := ⟨240, Tryz.f240, (.tup (.v (.int .i64)) (.tup (.v (.sl tyNode)) (.tup (.v (.int .i64)) (.tup (.v (.sl (.int .u64))) .unit)))), (.tup (.v (.int .u64)) .unit), [], [], [], [], [], none⟩
noncomputable def h_spec_l7Holds : FnH := ⟨175, Tryz.f175, (.tup (.v tyProgram) (.tup (.v (.sl tyNode)) (.tup (.v (.sl (.int .u64))) .unit))), (.tup (.v .bool) .unit), [], [], [], [], [], none⟩
noncomputable def h_spec_l8Those : FnH := ⟨99, Tryz.f99, (.tup (.v tyProgram) (.tup (.v (.sl tyNode)) .unit)), (.tup (.own 206879 (.int .i64) true) .unit), [], [], [(0, ⟨[(1, (.v (.sl tyNode))), (2, (.sp tyProgram)), (5, (.own 206874 (.int .i64) true)), (6, (.v (.int .i64)))], [(.exit 0, [(5, (.own 206878 (.int .i64) true))])], []⟩)], [], [], none⟩
noncomputable def h_spec_l1Has : FnH := ⟨98, Tryz.f98, (.tup (.v (.sl (.int .i64))) (.tup (.v (.int .i64)) .unit)), (.tup (.v .bool) .unit), [], [], [(0, ⟨[(1, (.v (.int .i64))), (7, (.v (.sl (.int .i64)))), (8, (.v (.int .i64))), (9, (.v (.int .i64)))], [(.ret, [(4, (.v .bool))]), (.exit 0, [])], []⟩)], [], [], none⟩
noncomputable def h_spec_l15Of : FnH := ⟨198, Tryz.f198, (.tup (.v (.sl (.int .i64))) .unit), (.tup (.one (.own 206885 (.int .i64) true)) .unit), [], [], [(0, ⟨[(0, (.v (.sl (.int .i64)))), (2, (.sp tySight)), (3, (.box 206882 (.one (.own 206883 (.int .i64) true)))), (4, (.v (.int .i64))), (9, (.v (.sl (.int .i64)))), (10, (.v (.int .i64))), (11, (.v (.int .i64)))], [(.exit 0, [(2206882, (.box 206882 (.one (.own 206884 (.int .i64) true))))])], [2, 3]⟩), (2, ⟨[(0, (.v (.sl (.int .i64)))), (2, (.sp tySight)), (3, (.sp tySight)), (4, (.v (.int .i64))), (5, (.v (.int .i64))), (6, (.v (.int .i64))), (7, (.v (.int .i64))), (8, (.v (.int .i64))), (9, (.v (.sl (.int .i64)))), (10, (.v (.int .i64))), (11, (.v (.int .i64)))], [(.exit 2, [(7, (.v (.int .i64)))])], [0, 2, 3, 4, 9, 10, 11]⟩)], [], [], none⟩
noncomputable def h_spec_l15Cut : FnH := ⟨118, Tryz.f118, (.tup (.v tySight) (.tup (.v (.sl (.int .i64))) .unit)), (.tup (.one (.own 206886 (.int .i64) true)) .unit), [], [], [(0, ⟨[(1, (.v (.sl (.int .i64)))), (4, (.sp tySight)), (5, (.own 206880 (.int .i64) true)), (9, (.v (.sl (.int .i64)))), (10, (.v (.int .i64))), (11, (.v (.int .i64)))], [(.exit 0, [(5, (.own 206881 (.int .i64) true))])], [4]⟩)], [], [], none⟩
noncomputable def h_spec_l15Split : FnH := ⟨85, Tryz.f85, (.tup (.v tyProgram) (.tup (.v tySight) (.tup (.v (.sl tyNode)) .unit))), (.tup (.one (.own 206887 (.int .i64) true)) .unit), [], [], [], [], [], none⟩
noncomputable def h_spec_l15By : FnH := ⟨86, Tryz.f86, (.tup (.v tyProgram) (.tup (.v (.sl (.sl tyNode))) .unit)), (.tup (.one (.own 206891 (.int .i64) true)) .unit), [], [], [(0, ⟨[(2, (.sp tyProgram)), (4, (.sp tySight)), (5, (.box 206888 (.one (.own 206889 (.int .i64) true)))), (12, (.v (.sl (.sl tyNode)))), (13, (.v (.int .i64))), (14, (.v (.int .i64)))], [(.exit 0, [(2206888, (.box 206888 (.one (.own 206890 (.int .i64) true))))])], [4, 5]⟩)], [], [], none⟩
noncomputable def h_spec_l22For : FnH := ⟨61, Tryz.f61, (.tup (.v tyQuestion) (.tup (.v (.sl (.sl tyNode))) .unit)), (.tup (.one (.own 206895 (.int .i64) true)) .unit), [], [], [(0, ⟨[(2, (.sp tyQuestion)), (4, (.sp tySight)), (5, (.box 206892 (.one (.own 206893 (.int .i64) true)))), (13, (.v (.sl (.sl tyNode)))), (14, (.v (.int .i64))), (15, (.v (.int .i64)))], [(.exit 0, [(2206892, (.box 206892 (.one (.own 206894 (.int .i64) true))))])], [4, 5]⟩)], [], [], none⟩
noncomputable def h_spec_SightFor : FnH := ⟨13, Tryz.f13, (.tup (.v tyQuestion) (.tup (.v (.sl (.sl tyNode))) .unit)), (.tup (.one (.own 206896 (.int .i64) true)) (.tup (.v .bool) .unit)), [], [], [], [], [], none⟩
noncomputable def h_impl_isWide : FnH := ⟨275, Tryz.f275, (.tup (.v (.int .i64)) .unit), (.tup (.v .bool) .unit), [], [], [], [], [], none⟩
noncomputable def h_impl_isVars : FnH := ⟨276, Tryz.f276, (.tup (.v (.int .i64)) .unit), (.tup (.v .bool) .unit), [], [], [], [], [], none⟩
noncomputable def h_impl_operandsOf : FnH := ⟨334, Tryz.f334, (.tup (.v (.int .i64)) .unit), (.tup (.v (.int .i64)) (.tup (.v (.int .i64)) (.tup (.v (.int .i64)) .unit))), [], [], [], [], [], none⟩
noncomputable def h_impl_mask : FnH := ⟨183, Tryz.f183, (.tup (.v (.int .i64)) .unit), (.tup (.v (.int .u64)) .unit), [], [], [], [], [], none⟩
noncomputable def h_impl_GoodWord : FnH := ⟨364, Tryz.f364, (.tup (.v (.int .i64)) (.tup (.v (.int .u64)) .unit)), (.tup (.v .bool) .unit), [], [], [], [], [], none⟩
noncomputable def h_impl_isLeafRight : FnH := ⟨335, Tryz.f335, (.tup (.v (.int .i64)) (.tup (.v (.int .i64)) (.tup (.v tyNode) .unit))), (.tup (.v .bool) .unit), [], [], [], [], [], none⟩
noncomputable def h_impl_GoodTerm_1 : FnH := ⟨336, Tryz.f336, (.tup (.v (.int .i64)) (.tup (.sp (.int .i64)) .unit)), (.tup (.v .bool) .unit), [], [], [], [], [], none⟩
noncomputable def h_slices_IndexFunc_int_by_GoodTerm_1 : FnH := ⟨152, Tryz.f152, (.tup (.v (.sl (.int .i64))) (.tup (.v (.fn 336 (.pair (.int .i64) .nil))) .unit)), (.tup (.v (.int .i64)) .unit), [], [], [(0, ⟨[(0, (.v (.sl (.int .i64)))), (1, (.v (.fn 336 (.pair (.int .i64) .nil)))), (7, (.v (.int .i64))), (8, (.v (.int .i64)))], [(.ret, [(4, (.v (.int .i64)))]), (.exit 0, [])], []⟩)], [], [], none⟩
noncomputable def h_slices_ContainsFunc_int_by_GoodTerm_1 : FnH := ⟨144, Tryz.f144, (.tup (.v (.sl (.int .i64))) (.tup (.v (.fn 336 (.pair (.int .i64) .nil))) .unit)), (.tup (.v .bool) .unit), [], [], [], [], [], none⟩
noncomputable def h_impl_GoodTerm : FnH := ⟨284, Tryz.f284, (.tup (.v (.int .i64)) (.tup (.v (.int .i64)) (.tup (.v (.sl tyNode)) .unit))), (.tup (.v .bool) .unit), [], [], [(0, ⟨[(0, (.v (.int .i64))), (1, (.v (.int .i64))), (7, (.own 206897 (.int .i64) true)), (33, (.v (.sl tyNode))), (34, (.v (.int .i64))), (35, (.v (.int .i64)))], [(.ret, [(6, (.v .bool))]), (.exit 0, [(7, (.own 206898 (.int .i64) true))])], []⟩)], [], [], none⟩
noncomputable def h_impl_kindOf : FnH := ⟨285, Tryz.f285, (.tup (.v (.sl tyNode)) .unit), (.tup (.v (.int .i64)) .unit), [], [], [], [], [], none⟩
noncomputable def h_impl_isTermOf : FnH := ⟨208, Tryz.f208, (.tup (.v (.int .i64)) (.tup (.v (.int .i64)) (.tup (.v (.sl tyNode)) (.tup (.v (.int .i64)) .unit)))), (.tup (.v .bool) .unit), [], [], [], [], [], none⟩
noncomputable def h_impl_Program_isCondition : FnH := ⟨129, Tryz.f129, (.tup (.v tyProgram) (.tup (.v (.sl tyNode)) .unit)), (.tup (.v .bool) .unit), [], [], [], [], [], none⟩
noncomputable def h_impl_Program_isCommand : FnH := ⟨279, Tryz.f279, (.tup (.v tyProgram) (.tup (.v tyCommand) .unit)), (.tup (.v .bool) .unit), [], [], [(0, ⟨[(2, (.sp tyProgram)), (3, (.sp tyCommand)), (13, (.v (.sl tyChange))), (14, (.v (.int .i64))), (15, (.v (.int .i64)))], [(.ret, [(4, (.v .bool))]), (.exit 0, [])], []⟩)], [], [], none⟩
noncomputable def h_impl_GoodProgram_1 : FnH := ⟨278, Tryz.f278, (.tup (.v tyCommand) (.tup (.sp tyProgram) .unit)), (.tup (.v .bool) .unit), [], [], [], [], [], none⟩
noncomputable def h_slices_IndexFunc_Command_by_GoodProgram_1 : FnH := ⟨331, Tryz.f331, (.tup (.v (.sl tyCommand)) (.tup (.v (.fn 278 (.pair tyProgram .nil))) .unit)), (.tup (.v (.int .i64)) .unit), [], [], [(0, ⟨[(0, (.v (.sl tyCommand))), (1, (.v (.fn 278 (.pair tyProgram .nil)))), (7, (.v (.int .i64))), (8, (.v (.int .i64)))], [(.ret, [(4, (.v (.int .i64)))]), (.exit 0, [])], []⟩)], [], [], none⟩
noncomputable def h_slices_ContainsFunc_Command_by_GoodProgram_1 : FnH := ⟨277, Tryz.f277, (.tup (.v (.sl tyCommand)) (.tup (.v (.fn 278 (.pair tyProgram .nil))) .unit)), (.tup (.v .bool) .unit), [], [], [], [], [], none⟩
noncomputable def h_impl_GoodProgram : FnH := ⟨204, Tryz.f204, (.tup (.v tyProgram) .unit), (.tup (.v .bool) .unit), [], [], [], [], [], none⟩
noncomputable def h_impl_isSmall : FnH := ⟨125, Tryz.f125, (.tup (.v tyProgram) .unit), (.tup (.v .bool) .unit), [], [], [], [], [], none⟩
noncomputable def h_impl_operandsOfSaid : FnH := ⟨185, Tryz.f185, (.tup (.v (.int .i64)) .unit), (.tup (.v (.int .i64)) .unit), [], [], [], [], [], none⟩
noncomputable def h_impl_isSaid : FnH := ⟨280, Tryz.f280, (.tup (.v tySaid) .unit), (.tup (.v .bool) .unit), [], [], [], [], [], none⟩
noncomputable def h_impl_GoodSaid : FnH := ⟨205, Tryz.f205, (.tup (.v (.sl tySaid)) .unit), (.tup (.v .bool) .unit), [], [], [(0, ⟨[(3, (.v (.int .i64))), (15, (.v (.sl tySaid))), (16, (.v (.int .i64))), (17, (.v (.int .i64)))], [(.ret, [(2, (.v .bool))]), (.exit 0, [(3, (.v (.int .i64)))])], []⟩)], [], [], none⟩
noncomputable def h_slices_Clone_int : FnH := ⟨158, Tryz.f158, (.tup (.v (.sl (.int .i64))) .unit), (.tup (.own 206901 (.int .i64) true) .unit), [], [], [], [], [], none⟩
noncomputable def h_impl_operandIndexes : FnH := ⟨281, Tryz.f281, (.tup (.v (.sl tySaid)) .unit), (.tup (.own 206903 (.sl (.int .i64)) true) .unit), [], [], [(0, ⟨[(3, (.own 206899 (.sl (.int .i64)) true)), (4, (.own 206900 (.int .i64) true)), (10, (.v (.sl tySaid))), (11, (.v (.int .i64))), (12, (.v (.int .i64)))], [(.exit 0, [(3, (.own 206902 (.sl (.int .i64)) true))])], []⟩)], [], [], none⟩
noncomputable def h_slices_Sort_int : FnH := sortH 282 Tryz.f282 206906
noncomputable def h_slices_Compact_int : FnH := compactH 283 Tryz.f283 206907 206908
noncomputable def h_impl_tracked : FnH := ⟨206, Tryz.f206, (.tup (.v (.sl tySaid)) .unit), (.tup (.own 206909 (.int .i64) true) .unit), [], [], [(0, ⟨[(3, (.own 206904 (.int .i64) true)), (4, (.v (.sl (.sl (.int .i64))))), (13, (.v (.sl tySaid))), (14, (.v (.int .i64))), (15, (.v (.int .i64)))], [(.exit 0, [(3, (.own 206905 (.int .i64) true))])], []⟩)], [], [], none⟩
noncomputable def h_impl_isTracked : FnH := ⟨126, Tryz.f126, (.tup (.v (.sl tySaid)) .unit), (.tup (.v .bool) .unit), [], [], [], [], [], none⟩
noncomputable def h_impl_GoodQuestion_1 : FnH := ⟨128, Tryz.f128, (.tup (.v (.sl tyNode)) (.tup (.sp tyQuestion) .unit)), (.tup (.v .bool) .unit), [], [], [], [], [], none⟩
noncomputable def h_slices_IndexFunc_Node_by_GoodQuestion_1 : FnH := ⟨207, Tryz.f207, (.tup (.v (.sl (.sl tyNode))) (.tup (.v (.fn 128 (.pair tyQuestion .nil))) .unit)), (.tup (.v (.int .i64)) .unit), [], [], [(0, ⟨[(0, (.v (.sl (.sl tyNode)))), (1, (.v (.fn 128 (.pair tyQuestion .nil)))), (7, (.v (.int .i64))), (8, (.v (.int .i64)))], [(.ret, [(4, (.v (.int .i64)))]), (.exit 0, [])], []⟩)], [], [], none⟩
noncomputable def h_slices_ContainsFunc_Node_by_GoodQuestion_1 : FnH := ⟨127, Tryz.f127, (.tup (.v (.sl (.sl tyNode))) (.tup (.v (.fn 128 (.pair tyQuestion .nil))) .unit)), (.tup (.v .bool) .unit), [], [], [], [], [], none⟩
noncomputable def h_impl_GoodQuestion : FnH := ⟨63, Tryz.f63, (.tup (.v tyQuestion) .unit), (.tup (.v .bool) .unit), [], [], [], [], [], none⟩
noncomputable def h_impl_Program_arePreds_1 : FnH := ⟨130, Tryz.f130, (.tup (.v (.sl tyNode)) (.tup (.sp tyProgram) .unit)), (.tup (.v .bool) .unit), [], [], [], [], [], none⟩
noncomputable def h_slices_IndexFunc_Node_by_Program_arePreds_1 : FnH := ⟨207, Tryz.f207, (.tup (.v (.sl (.sl tyNode))) (.tup (.v (.fn 130 (.pair tyProgram .nil))) .unit)), (.tup (.v (.int .i64)) .unit), [], [], [(0, ⟨[(0, (.v (.sl (.sl tyNode)))), (1, (.v (.fn 130 (.pair tyProgram .nil)))), (7, (.v (.int .i64))), (8, (.v (.int .i64)))], [(.ret, [(4, (.v (.int .i64)))]), (.exit 0, [])], []⟩)], [], [], none⟩
noncomputable def h_slices_ContainsFunc_Node_by_Program_arePreds_1 : FnH := ⟨127, Tryz.f127, (.tup (.v (.sl (.sl tyNode))) (.tup (.v (.fn 130 (.pair tyProgram .nil))) .unit)), (.tup (.v .bool) .unit), [], [(7, 10094)], [], [], [], none⟩
noncomputable def h_impl_Program_arePreds : FnH := ⟨64, Tryz.f64, (.tup (.v tyProgram) (.tup (.v (.sl (.sl tyNode))) (.tup (.v (.int .i64)) .unit))), (.tup (.v .bool) .unit), [], [(19, 10093)], [], [], [], none⟩
noncomputable def h_slices_Grow_NodeS : FnH := ⟨133, Tryz.f133, (.tup (.nl (.sl tyNode)) (.tup (.v (.int .i64)) .unit)), (.tup (.own 206910 (.sl tyNode) false) .unit), [], [], [], [], [], none⟩
noncomputable def h_slices_Concat_NodeS : FnH := ⟨66, Tryz.f66, (.tup (.v (.sl (.sl (.sl tyNode)))) .unit), (.tup (.own 206913 (.sl tyNode) false) .unit), [], [], [(0, ⟨[(0, (.v (.sl (.sl (.sl tyNode))))), (3, (.v (.int .i64))), (9, (.v (.sl (.sl (.sl tyNode))))), (10, (.v (.int .i64))), (11, (.v (.int .i64)))], [(.exit 0, [(3, (.v (.int .i64)))])], [0]⟩), (2, ⟨[(6, (.own 206911 (.sl tyNode) false)), (25, (.v (.sl (.sl (.sl tyNode))))), (26, (.v (.int .i64))), (27, (.v (.int .i64)))], [(.exit 2, [(6, (.own 206912 (.sl tyNode) false))])], []⟩)], [], [], none⟩
noncomputable def h_impl_Program_states : FnH := ⟨131, Tryz.f131, (.tup (.v tyProgram) .unit), (.tup (.v (.int .i64)) .unit), [], [], [], [], [], none⟩
noncomputable def h_impl_Program_stateOf : FnH := ⟨106, Tryz.f106, (.tup (.v tyProgram) (.tup (.v (.int .i64)) .unit)), (.tup (.own 206916 (.int .u64) true) .unit), [], [], [(0, ⟨[(1, (.v (.int .i64))), (2, (.sp tyProgram)), (5, (.own 206914 (.int .u64) true)), (9, (.v (.int .i64))), (10, (.v (.int .i64)))], [(.exit 0, [(5, (.own 206915 (.int .u64) true))])], []⟩)], [], [], none⟩
noncomputable def h_impl_areWords : FnH := ⟨347, Tryz.f347, (.tup (.v (.int .i64)) (.tup (.v (.int .u64)) (.tup (.v (.int .u64)) .unit))), (.tup (.v .bool) .unit), [], [], [], [], [], none⟩
noncomputable def h_bits_Div64 : FnH := ⟨348, Tryz.f348, (.tup (.v (.int .u64)) (.tup (.v (.int .u64)) (.tup (.v (.int .u64)) .unit))), (.tup (.v (.int .u64)) (.tup (.v (.int .u64)) .unit)), [], [], [], [], [], none⟩
noncomputable def h_impl_DivWord : FnH := ⟨311, Tryz.f311, (.tup (.v (.int .i64)) (.tup (.v (.int .u64)) (.tup (.v (.int .u64)) .unit))), (.tup (.v (.int .u64)) (.tup (.v (.int .u64)) (.tup (.v .bool) .unit))), [], [], [], [], [], none⟩
noncomputable def h_impl_shift : FnH := ⟨312, Tryz.f312, (.tup (.v (.int .i64)) (.tup (.v (.int .u64)) (.tup (.v (.int .u64)) (.tup (.v .bool) .unit)))), (.tup (.v (.int .u64)) .unit), [], [], [], [], [], none⟩
noncomputable def h_impl_truth : FnH := ⟨313, Tryz.f313, (.tup (.v .bool) .unit), (.tup (.v (.int .u64)) .unit), [], [], [], [], [], none⟩
noncomputable def h_impl_signed : FnH := ⟨314, Tryz.f314, (.tup (.v (.int .i64)) (.tup (.v (.int .u64)) .unit)), (.tup (.v (.int .i64)) .unit), [], [], [], [], [], none⟩
noncomputable def h_impl_apply : FnH := ⟨243, Tryz.f243, (.tup (.v (.int .i64)) (.tup (.v (.int .i64)) (.tup (.v (.int .u64)) (.tup (.v (.int .u64)) .unit)))), (.tup (.v (.int .u64)) .unit), [], [], [], [], [], none⟩
noncomputable def h_impl_valueOf : FnH := ⟨182, Tryz.f182, (.tup (.v (.int .i64)) (.tup (.v (.sl tyNode)) (.tup (.v (.sl (.int .u64))) .unit))), (.tup (.v (.int .u64)) .unit), [], [], [(0, ⟨[(0, (.v (.int .i64))), (2, (.v (.sl (.int .u64)))), (7, (.own 206919 (.int .u64) true)), (12, (.v (.sl tyNode))), (13, (.v (.int .i64))), (14, (.v (.int .i64)))], [(.exit 0, [(7, (.own 206920 (.int .u64) true))])], []⟩)], [], [], none⟩
noncomputable def h_impl_numbered : FnH := ⟨286, Tryz.f286, (.tup (.v (.sl tySaid)) .unit), (.tup (.one (.own 206925 (.int .i64) true)) .unit), [], [], [(0, ⟨[(2, (.sp tySight)), (3, (.map 206921 tySaid (.int .i64))), (4, (.box 206922 (.one (.own 206923 (.int .i64) true)))), (11, (.v (.sl tySaid))), (12, (.v (.int .i64))), (13, (.v (.int .i64)))], [(.exit 0, [(1206921, (.map 206921 tySaid (.int .i64))), (2206922, (.box 206922 (.one (.own 206924 (.int .i64) true))))])], [2, 4]⟩)], [], [], none⟩
noncomputable def h_impl_SightBy : FnH := ⟨209, Tryz.f209, (.tup (.v tyProgram) (.tup (.v (.sl (.sl tyNode))) .unit)), (.tup (.one (.own 206926 (.int .i64) true)) (.tup (.v .bool) .unit)), [], [], [(0, ⟨[(1, (.v (.sl (.sl tyNode)))), (2, (.sp tyProgram)), (4, (.sp tySight)), (6, (.own 206918 tySaid true)), (25, (.v (.int .i64))), (26, (.v (.int .i64)))], [(.exit 0, [(1206918, (.own 206918 tySaid true))])], [4, 6]⟩), (2, ⟨[(1, (.v (.sl (.sl tyNode)))), (2, (.sp tyProgram)), (4, (.sp tySight)), (6, (.own 206917 tySaid true)), (7, (.v (.int .i64))), (8, (.v (.sl (.int .u64)))), (25, (.v (.int .i64))), (26, (.v (.int .i64))), (32, (.v (.sl (.sl tyNode)))), (33, (.v (.int .i64))), (34, (.v (.int .i64)))], [(.exit 2, [(1206917, (.own 206917 tySaid true))])], [1, 2, 4, 6, 25, 26]⟩)], [], [], none⟩
noncomputable def h_impl_isSight : FnH := ⟨218, Tryz.f218, (.tup (.v tySight) (.tup (.v (.int .i64)) .unit)), (.tup (.v .bool) .unit), [], [], [(0, ⟨[(1, (.v (.int .i64))), (2, (.sp tySight)), (5, (.v (.int .i64))), (9, (.v (.sl (.int .i64)))), (10, (.v (.int .i64))), (11, (.v (.int .i64)))], [(.ret, [(4, (.v .bool))]), (.exit 0, [])], [1, 2]⟩)], [], [], none⟩
noncomputable def h_impl_GoodSight : FnH := ⟨142, Tryz.f142, (.tup (.v tyProgram) (.tup (.v tySight) .unit)), (.tup (.v .bool) .unit), [], [], [], [], [], none⟩
noncomputable def h_impl_meetOf : FnH := ⟨210, Tryz.f210, (.tup (.v tySight) (.tup (.v tySight) .unit)), (.tup (.one (.own 206929 (.int .i64) true)) .unit), [], [], [(0, ⟨[(3, (.sp tySight)), (4, (.sp tySight)), (5, (.own 206927 tySaid true)), (10, (.v (.sl (.int .i64)))), (11, (.v (.int .i64))), (12, (.v (.int .i64)))], [(.exit 0, [(5, (.own 206928 tySaid true))])], [4]⟩)], [], [], none⟩
noncomputable def h_impl_SplitBy : FnH := ⟨132, Tryz.f132, (.tup (.v tyProgram) (.tup (.v tySight) (.tup (.v (.sl tyNode)) .unit))), (.tup (.one (.own 206930 (.int .i64) true)) (.tup (.v .bool) .unit)), [], [], [], [], [], none⟩
noncomputable def h_impl_sightOf : FnH := ⟨65, Tryz.f65, (.tup (.v tyProgram) (.tup (.v (.sl (.sl tyNode))) .unit)), (.tup (.one (.own 206934 (.int .i64) true)) .unit), [], [], [(0, ⟨[(2, (.sp tyProgram)), (4, (.sp tySight)), (5, (.box 206931 (.one (.own 206932 (.int .i64) true)))), (12, (.v (.sl (.sl tyNode)))), (13, (.v (.int .i64))), (14, (.v (.int .i64)))], [(.exit 0, [(2206931, (.box 206931 (.one (.own 206933 (.int .i64) true))))])], [4, 5]⟩)], [], [], none⟩
noncomputable def h_impl_SightFor : FnH := ⟨16, Tryz.f16, (.tup (.v tyQuestion) (.tup (.v (.sl (.sl tyNode))) .unit)), (.tup (.one (.own 206935 (.int .i64) true)) (.tup (.v .bool) .unit)), [], [], [], [], [], none⟩
noncomputable def h_laws_eqIntS : FnH := ⟨31, Tryz.f31, (.tup (.v (.sl (.int .i64))) (.tup (.v (.sl (.int .i64))) .unit)), (.tup (.v .bool) .unit), [], [], [(0, ⟨[(0, (.v (.sl (.int .i64)))), (1, (.v (.sl (.int .i64)))), (5, (.v (.int .i64)))], [(.ret, [(4, (.v .bool))]), (.exit 0, [])], []⟩)], [], [], none⟩
noncomputable def h_laws_eqSight : FnH := ⟨17, Tryz.f17, (.tup (.v tySight) (.tup (.v tySight) .unit)), (.tup (.v .bool) .unit), [], [], [], [], [], none⟩
noncomputable def h_laws_eqNode : FnH := ⟨92, Tryz.f92, (.tup (.v tyNode) (.tup (.v tyNode) .unit)), (.tup (.v .bool) .unit), [], [], [], [], [], none⟩
noncomputable def h_laws_eqNodeS : FnH := ⟨43, Tryz.f43, (.tup (.v (.sl tyNode)) (.tup (.v (.sl tyNode)) .unit)), (.tup (.v .bool) .unit), [], [], [(0, ⟨[(0, (.v (.sl tyNode))), (1, (.v (.sl tyNode))), (5, (.v (.int .i64)))], [(.ret, [(4, (.v .bool))]), (.exit 0, [])], []⟩)], [], [], none⟩
noncomputable def h_laws_eqChange : FnH := ⟨291, Tryz.f291, (.tup (.v tyChange) (.tup (.v tyChange) .unit)), (.tup (.v .bool) .unit), [], [], [], [], [], none⟩
noncomputable def h_laws_eqChangeS : FnH := ⟨225, Tryz.f225, (.tup (.v (.sl tyChange)) (.tup (.v (.sl tyChange)) .unit)), (.tup (.v .bool) .unit), [], [], [(0, ⟨[(0, (.v (.sl tyChange))), (1, (.v (.sl tyChange))), (5, (.v (.int .i64)))], [(.ret, [(4, (.v .bool))]), (.exit 0, [])], []⟩)], [], [], none⟩
noncomputable def h_laws_eqCommand : FnH := ⟨154, Tryz.f154, (.tup (.v tyCommand) (.tup (.v tyCommand) .unit)), (.tup (.v .bool) .unit), [], [], [], [], [], none⟩
noncomputable def h_laws_eqCommandS : FnH := ⟨78, Tryz.f78, (.tup (.v (.sl tyCommand)) (.tup (.v (.sl tyCommand)) .unit)), (.tup (.v .bool) .unit), [], [], [(0, ⟨[(0, (.v (.sl tyCommand))), (1, (.v (.sl tyCommand))), (5, (.v (.int .i64)))], [(.ret, [(4, (.v .bool))]), (.exit 0, [])], []⟩)], [], [], none⟩
noncomputable def h_laws_eqProgram : FnH := ⟨32, Tryz.f32, (.tup (.v tyProgram) (.tup (.v tyProgram) .unit)), (.tup (.v .bool) .unit), [], [], [], [], [], none⟩
noncomputable def h_laws_eqNodeSS : FnH := ⟨19, Tryz.f19, (.tup (.v (.sl (.sl tyNode))) (.tup (.v (.sl (.sl tyNode))) .unit)), (.tup (.v .bool) .unit), [], [], [(0, ⟨[(0, (.v (.sl (.sl tyNode)))), (1, (.v (.sl (.sl tyNode)))), (5, (.v (.int .i64)))], [(.ret, [(4, (.v .bool))]), (.exit 0, [])], []⟩)], [], [], none⟩
noncomputable def h_laws_eqSaid : FnH := ⟨134, Tryz.f134, (.tup (.v tySaid) (.tup (.v tySaid) .unit)), (.tup (.v .bool) .unit), [], [], [], [], [], none⟩
noncomputable def h_laws_eqSaidS : FnH := ⟨67, Tryz.f67, (.tup (.v (.sl tySaid)) (.tup (.v (.sl tySaid)) .unit)), (.tup (.v .bool) .unit), [], [], [(0, ⟨[(0, (.v (.sl tySaid))), (1, (.v (.sl tySaid))), (5, (.v (.int .i64)))], [(.ret, [(4, (.v .bool))]), (.exit 0, [])], []⟩)], [], [], none⟩
noncomputable def h_laws_eqQuestion : FnH := ⟨18, Tryz.f18, (.tup (.v tyQuestion) (.tup (.v tyQuestion) .unit)), (.tup (.v .bool) .unit), [], [], [], [], [], none⟩
noncomputable def h_laws_markNodeS : FnH := ⟨44, Tryz.f44, (.tup (.own 206937 tyNode true) (.tup (.v (.int .i64)) .unit)), (.tup (.own 206937 tyNode true) (.tup (.v (.int .i64)) .unit)), [206937], [], [(0, ⟨[(0, (.own 206936 tyNode true)), (1, (.v (.int .i64))), (5, (.v (.int .i64)))], [(.exit 0, [(1206936, (.own 206936 tyNode true)), (1, (.v (.int .i64)))])], []⟩)], [], [], none⟩
noncomputable def h_laws_markChangeS : FnH := ⟨155, Tryz.f155, (.tup (.own 206942 tyChange true) (.tup (.v (.int .i64)) .unit)), (.tup (.own 206942 tyChange true) (.tup (.v (.int .i64)) .unit)), [206942], [], [(0, ⟨[(0, (.own 206941 tyChange true)), (1, (.v (.int .i64))), (5, (.v (.int .i64)))], [(.exit 0, [(1206941, (.own 206941 tyChange true)), (1, (.v (.int .i64)))])], []⟩)], [], [], none⟩
noncomputable def h_laws_markCommandS : FnH := ⟨79, Tryz.f79, (.tup (.own 206940 tyCommand true) (.tup (.v (.int .i64)) .unit)), (.tup (.own 206940 tyCommand true) (.tup (.v (.int .i64)) .unit)), [206940], [], [(0, ⟨[(0, (.own 206939 tyCommand true)), (1, (.v (.int .i64))), (5, (.v (.int .i64)))], [(.exit 0, [(1206939, (.own 206939 tyCommand true)), (1, (.v (.int .i64)))])], []⟩)], [], [], none⟩
noncomputable def h_laws_markProgram : FnH := ⟨33, Tryz.f33, (.tup (.pair (.v (.int .i64)) (.pair (.v (.int .i64)) (.pair (.own 206938 tyNode true) (.own 206943 tyCommand true)))) (.tup (.v (.int .i64)) .unit)), (.tup (.own 206938 tyNode true) (.tup (.own 206943 tyCommand true) (.tup (.v (.int .i64)) .unit))), [206938, 206943], [], [], [], [], none⟩
noncomputable def h_laws_markNodeSS : FnH := ⟨21, Tryz.f21, (.tup (.own 206947 (.sl tyNode) true) (.tup (.v (.int .i64)) .unit)), (.tup (.own 206947 (.sl tyNode) true) (.tup (.v (.int .i64)) .unit)), [206947], [], [(0, ⟨[(0, (.own 206946 (.sl tyNode) true)), (1, (.v (.int .i64))), (5, (.v (.int .i64)))], [(.exit 0, [(1206946, (.own 206946 (.sl tyNode) true)), (1, (.v (.int .i64)))])], []⟩)], [], [], none⟩
noncomputable def h_laws_markSaidS : FnH := ⟨68, Tryz.f68, (.tup (.own 206950 tySaid true) (.tup (.v (.int .i64)) .unit)), (.tup (.own 206950 tySaid true) (.tup (.v (.int .i64)) .unit)), [206950], [], [(0, ⟨[(0, (.own 206949 tySaid true)), (1, (.v (.int .i64))), (5, (.v (.int .i64)))], [(.exit 0, [(1206949, (.own 206949 tySaid true)), (1, (.v (.int .i64)))])], []⟩)], [], [], none⟩
noncomputable def h_laws_markQuestion : FnH := ⟨20, Tryz.f20, (.tup (.pair (.pair (.v (.int .i64)) (.pair (.v (.int .i64)) (.pair (.own 206944 tyNode true) (.own 206945 tyCommand true)))) (.pair (.own 206948 (.sl tyNode) true) (.own 206951 tySaid true))) (.tup (.v (.int .i64)) .unit)), (.tup (.own 206944 tyNode true) (.tup (.own 206945 tyCommand true) (.tup (.own 206948 (.sl tyNode) true) (.tup (.own 206951 tySaid true) (.tup (.v (.int .i64)) .unit))))), [206944, 206945, 206948, 206951], [], [], [], [], none⟩
noncomputable def h_laws_markIntS : FnH := ⟨34, Tryz.f34, (.tup (.own 206953 (.int .i64) true) (.tup (.v (.int .i64)) .unit)), (.tup (.own 206953 (.int .i64) true) (.tup (.v (.int .i64)) .unit)), [206953], [], [(0, ⟨[(0, (.own 206952 (.int .i64) true)), (1, (.v (.int .i64))), (5, (.v (.int .i64)))], [(.exit 0, [(1206952, (.own 206952 (.int .i64) true)), (1, (.v (.int .i64)))])], []⟩)], [], [], none⟩
noncomputable def h_laws_markSight : FnH := ⟨22, Tryz.f22, (.tup (.one (.own 206954 (.int .i64) true)) (.tup (.v (.int .i64)) .unit)), (.tup (.own 206954 (.int .i64) true) (.tup (.v (.int .i64)) .unit)), [206954], [], [], [], [], none⟩
noncomputable def h_laws_heldIntS : FnH := ⟨35, Tryz.f35, (.tup (.v (.sl (.int .i64))) (.tup (.v (.int .i64)) .unit)), (.tup (.v (.int .i64)) .unit), [], [], [(0, ⟨[(0, (.v (.sl (.int .i64)))), (1, (.v (.int .i64))), (5, (.v (.int .i64)))], [(.ret, [(4, (.v (.int .i64)))]), (.exit 0, [(1, (.v (.int .i64)))])], []⟩)], [], [], none⟩
noncomputable def h_laws_heldSight : FnH := ⟨23, Tryz.f23, (.tup (.v tySight) (.tup (.v (.int .i64)) .unit)), (.tup (.v (.int .i64)) .unit), [], [], [], [], [], none⟩
noncomputable def h_laws_FnExactSightFor : FnH := ⟨3, Tryz.f3, (.tup (.v tyQuestion) (.tup (.v (.sl (.sl tyNode))) .unit)), (.tup (.v .bool) .unit), [], [], [], [], [], none⟩
def extsL : List (Nat × ExtF) := []
def tysL : List (Nat × Ty) := [(2, (.int .i64)), (3, (.int .i64)), (4, .bool), (22, (.sl tyNode)), (23, (.sl tyCommand)), (25, tyProgram), (26, (.sl (.sl tyNode))), (27, (.sl tySaid)), (29, tyQuestion), (32, (.sl (.int .i64))), (34, tySight), (37, (.sl tyNode)), (38, (.sl tyCommand)), (40, tyProgram), (41, (.sl (.sl tyNode))), (42, (.sl tySaid)), (44, tyQuestion), (106, (.sl (.sl (.int .i64)))), (121, (.int .u64)), (123, tyNode), (125, tyNode), (139, (.sl (.int .u64))), (153, tySaid), (155, tySaid), (160, (.sl (.sl (.sl tyNode)))), (164, (.sl tyChange)), (166, tyCommand), (171, (.sl tyChange)), (173, tyCommand), (233, tyChange), (234, (.int .u64)), (276, (.sl tySaid)), (277, tySaid), (281, tyChange)]
def nfsL : List (Nat × Nat) := [(25, 4), (29, 3), (34, 1), (40, 4), (44, 3), (123, 2), (125, 2), (153, 2), (155, 2), (166, 2), (173, 2), (233, 2), (281, 2)]
def cellsL : List Nat := []
def mtysL : List (Nat × (Nat × Nat)) := [(323, (277, 3))]
noncomputable def keysL : List (Nat × FnH) := [(38, h_laws_szNodeS), (287, h_laws_szChange), (211, h_laws_szChangeS), (135, h_laws_szCommand), (69, h_laws_szCommandS), (24, h_laws_szProgram), (12, h_laws_szNodeSS), (58, h_laws_szSaidS), (11, h_laws_szQuestion), (89, h_laws_toNode), (40, h_laws_toNodeS), (288, h_laws_toChange), (217, h_laws_toChangeS), (141, h_laws_toCommand), (75, h_laws_toCommandS), (27, h_laws_toProgram), (15, h_laws_toNodeSS), (124, h_laws_toSaid), (62, h_laws_toSaidS), (14, h_laws_toQuestion), (116, h_spec_l1In), (272, h_spec_l1Wide), (273, h_spec_l2Need), (307, h_spec_l1Cut), (330, h_spec_GoodWord), (274, h_spec_l2N), (203, h_spec_l2Kind), (123, h_spec_l7Asks), (269, h_spec_l7Command), (200, h_spec_GoodProgram), (121, h_spec_l7Small), (270, h_spec_l10Need), (271, h_spec_l10N), (201, h_spec_GoodSaid), (213, h_spec_l1Put), (202, h_spec_l13Tracked), (122, h_spec_l13Good), (59, h_spec_GoodQuestion), (60, h_spec_l15Preds), (159, h_spec_l7Many), (176, h_spec_l7Of), (309, h_spec_l2From), (369, h_spec_l1Both), (343, h_spec_DivWord), (344, h_spec_l1Shift), (345, h_spec_l2Bool), (346, h_spec_l1Signed), (308, h_spec_l2Do), (240, h_spec_l2Value), (175, h_spec_l7Holds), (99, h_spec_l8Those), (98, h_spec_l1Has), (198, h_spec_l15Of), (118, h_spec_l15Cut), (85, h_spec_l15Split), (86, h_spec_l15By), (61, h_spec_l22For), (13, h_spec_SightFor), (275, h_impl_isWide), (276, h_impl_isVars), (334, h_impl_operandsOf), (183, h_impl_mask), (364, h_impl_GoodWord), (335, h_impl_isLeafRight), (336, h_impl_GoodTerm_1), (152, h_slices_IndexFunc_int_by_GoodTerm_1), (144, h_slices_ContainsFunc_int_by_GoodTerm_1), (284, h_impl_GoodTerm), (285, h_impl_kindOf), (208, h_impl_isTermOf), (129, h_impl_Program_isCondition), (279, h_impl_Program_isCommand), (278, h_impl_GoodProgram_1), (331, h_slices_IndexFunc_Command_by_GoodProgram_1), (277, h_slices_ContainsFunc_Command_by_GoodProgram_1), (204, h_impl_GoodProgram), (125, h_impl_isSmall), (185, h_impl_operandsOfSaid), (280, h_impl_isSaid), (205, h_impl_GoodSaid), (158, h_slices_Clone_int), (281, h_impl_operandIndexes), (282, h_slices_Sort_int), (283, h_slices_Compact_int), (206, h_impl_tracked), (126, h_impl_isTracked), (128, h_impl_GoodQuestion_1), (207, h_slices_IndexFunc_Node_by_GoodQuestion_1), (127, h_slices_ContainsFunc_Node_by_GoodQuestion_1), (63, h_impl_GoodQuestion), (130, h_impl_Program_arePreds_1), (10094, h_slices_IndexFunc_Node_by_Program_arePreds_1), (10093, h_slices_ContainsFunc_Node_by_Program_arePreds_1), (64, h_impl_Program_arePreds), (133, h_slices_Grow_NodeS), (66, h_slices_Concat_NodeS), (131, h_impl_Program_states), (106, h_impl_Program_stateOf), (347, h_impl_areWords), (348, h_bits_Div64), (311, h_impl_DivWord), (312, h_impl_shift), (313, h_impl_truth), (314, h_impl_signed), (243, h_impl_apply), (182, h_impl_valueOf), (286, h_impl_numbered), (209, h_impl_SightBy), (218, h_impl_isSight), (142, h_impl_GoodSight), (210, h_impl_meetOf), (132, h_impl_SplitBy), (65, h_impl_sightOf), (16, h_impl_SightFor), (31, h_laws_eqIntS), (17, h_laws_eqSight), (92, h_laws_eqNode), (43, h_laws_eqNodeS), (291, h_laws_eqChange), (225, h_laws_eqChangeS), (154, h_laws_eqCommand), (78, h_laws_eqCommandS), (32, h_laws_eqProgram), (19, h_laws_eqNodeSS), (134, h_laws_eqSaid), (67, h_laws_eqSaidS), (18, h_laws_eqQuestion), (44, h_laws_markNodeS), (155, h_laws_markChangeS), (79, h_laws_markCommandS), (33, h_laws_markProgram), (21, h_laws_markNodeSS), (68, h_laws_markSaidS), (20, h_laws_markQuestion), (34, h_laws_markIntS), (22, h_laws_markSight), (35, h_laws_heldIntS), (23, h_laws_heldSight), (3, h_laws_FnExactSightFor)]
noncomputable def H : Hints := { extF := fun f => lookupN extsL f, ty := fun T => lookupN tysL T, nf := fun T => match lookupN nfsL T with | some n => n | none => 0, cell := fun T => hasN cellsL T, key := fun k => lookupN keysL k, mty := fun T => lookupN mtysL T }
noncomputable def laws_szNodeS (a : Bool × List DNode) (left_ : Int) : Option Int := (inf H).call 38 (a, left_)
noncomputable def laws_szChange (a : DChange) (left_ : Int) : Option Int := (inf H).call 287 (a, left_)
noncomputable def laws_szChangeS (a : Bool × List DChange) (left_ : Int) : Option Int := (inf H).call 211 (a, left_)
theorem key_laws_szChangeS : H.key 211 = some h_laws_szChangeS := by kernel_rfl
noncomputable def laws_szChangeS_L0 (a : Bool × List DChange) (left_ : Int) (i : Int) : Option (Int ⊕ Int) := (inf H).loop 211 0 (loopCode Tryz.f211 0) (a, (left_, i))
noncomputable def laws_szCommand (a : DCommand) (left_ : Int) : Option Int := (inf H).call 135 (a, left_)
noncomputable def laws_szCommandS (a : Bool × List DCommand) (left_ : Int) : Option Int := (inf H).call 69 (a, left_)
theorem key_laws_szCommandS : H.key 69 = some h_laws_szCommandS := by kernel_rfl
noncomputable def laws_szCommandS_L0 (a : Bool × List DCommand) (left_ : Int) (i : Int) : Option (Int ⊕ Int) := (inf H).loop 69 0 (loopCode Tryz.f69 0) (a, (left_, i))
noncomputable def laws_szProgram (a : DProgram) (left_ : Int) : Option Int := (inf H).call 24 (a, left_)
noncomputable def laws_szNodeSS (a : Bool × List (Bool × List DNode)) (left_ : Int) : Option Int := (inf H).call 12 (a, left_)
theorem key_laws_szNodeSS : H.key 12 = some h_laws_szNodeSS := by kernel_rfl
noncomputable def laws_szNodeSS_L0 (a : Bool × List (Bool × List DNode)) (left_ : Int) (i : Int) : Option (Int ⊕ Int) := (inf H).loop 12 0 (loopCode Tryz.f12 0) (a, (left_, i))
noncomputable def laws_szSaidS (a : Bool × List DSaid) (left_ : Int) : Option Int := (inf H).call 58 (a, left_)
noncomputable def laws_szQuestion (a : DQuestion) (left_ : Int) : Option Int := (inf H).call 11 (a, left_)
noncomputable def laws_toNode (a : DNode) : Option DNode := (inf H).call 89 a
noncomputable def laws_toNodeS (a : Bool × List DNode) : Option (Bool × List DNode) := (inf H).call 40 a
theorem key_laws_toNodeS : H.key 40 = some h_laws_toNodeS := by kernel_rfl
noncomputable def laws_toNodeS_L0 (a : Bool × List DNode) (out : Bool × List DNode) (i : Int) : Option (Bool × List DNode) := (inf H).loop 40 0 (loopCode Tryz.f40 0) (a, (out, i))
noncomputable def laws_toChange (a : DChange) : Option DChange := (inf H).call 288 a
noncomputable def laws_toChangeS (a : Bool × List DChange) : Option (Bool × List DChange) := (inf H).call 217 a
theorem key_laws_toChangeS : H.key 217 = some h_laws_toChangeS := by kernel_rfl
noncomputable def laws_toChangeS_L0 (a : Bool × List DChange) (out : Bool × List DChange) (i : Int) : Option (Bool × List DChange) := (inf H).loop 217 0 (loopCode Tryz.f217 0) (a, (out, i))
noncomputable def laws_toCommand (a : DCommand) : Option DCommand := (inf H).call 141 a
noncomputable def laws_toCommandS (a : Bool × List DCommand) : Option (Bool × List DCommand) := (inf H).call 75 a
theorem key_laws_toCommandS : H.key 75 = some h_laws_toCommandS := by kernel_rfl
noncomputable def laws_toCommandS_L0 (a : Bool × List DCommand) (out : Bool × List DCommand) (i : Int) : Option (Bool × List DCommand) := (inf H).loop 75 0 (loopCode Tryz.f75 0) (a, (out, i))
noncomputable def laws_toProgram (a : DProgram) : Option DProgram := (inf H).call 27 a
noncomputable def laws_toNodeSS (a : Bool × List (Bool × List DNode)) : Option (Bool × List (Bool × List DNode)) := (inf H).call 15 a
theorem key_laws_toNodeSS : H.key 15 = some h_laws_toNodeSS := by kernel_rfl
noncomputable def laws_toNodeSS_L0 (a : Bool × List (Bool × List DNode)) (out : Bool × List (Bool × List DNode)) (i : Int) : Option (Bool × List (Bool × List DNode)) := (inf H).loop 15 0 (loopCode Tryz.f15 0) (a, (out, i))
noncomputable def laws_toSaid (a : DSaid) : Option DSaid := (inf H).call 124 a
noncomputable def laws_toSaidS (a : Bool × List DSaid) : Option (Bool × List DSaid) := (inf H).call 62 a
theorem key_laws_toSaidS : H.key 62 = some h_laws_toSaidS := by kernel_rfl
noncomputable def laws_toSaidS_L0 (a : Bool × List DSaid) (out : Bool × List DSaid) (i : Int) : Option (Bool × List DSaid) := (inf H).loop 62 0 (loopCode Tryz.f62 0) (a, (out, i))
noncomputable def laws_toQuestion (a : DQuestion) : Option (Int × Int × (Bool × List DNode) × (Bool × List DCommand) × (Bool × List (Bool × List DNode)) × Bool × List DSaid) := (inf H).call 14 a
noncomputable def spec_l1In (n : Int) (lo : Int) (hi : Int) : Option Bool := (inf H).call 116 (n, (lo, hi))
noncomputable def spec_l1Wide (wide : Int) : Option Bool := (inf H).call 272 wide
noncomputable def spec_l2Need (op : Int) : Option DEdge := (inf H).call 273 op
noncomputable def spec_l1Cut (wide : Int) (a : Int) : Option Int := (inf H).call 307 (wide, a)
theorem key_spec_l1Cut : H.key 307 = some h_spec_l1Cut := by kernel_rfl
noncomputable def spec_l1Cut_L0 (wide : Int) (a : Int) (out : Int) (k_ : Int) : Option Int := (inf H).loop 307 0 (loopCode Tryz.f307 0) (wide, (a, (out, k_)))
noncomputable def spec_GoodWord (wide : Int) (a : Int) : Option Bool := (inf H).call 330 (wide, a)
noncomputable def spec_l2N (wide : Int) (vars : Int) (n : DNode) : Option Bool := (inf H).call 274 (wide, (vars, n))
noncomputable def spec_l2Kind (wide : Int) (vars : Int) (t : Bool × List DNode) : Option Int := (inf H).call 203 (wide, (vars, t))
theorem key_spec_l2Kind : H.key 203 = some h_spec_l2Kind := by kernel_rfl
noncomputable def spec_l2Kind_L0 (wide : Int) (vars : Int) (pile : Bool × List Int) (t27 : Bool × List DNode) (t28 : Int) (t29 : Int) : Option (Int ⊕ (Bool × List Int)) := (inf H).loop 203 0 (loopCode Tryz.f203 0) (wide, (vars, (pile, (t27, (t28, t29)))))
noncomputable def spec_l2Kind_L2 (wide : Int) (vars : Int) (pile : Bool × List Int) (many : Int) (part : Int) (own : Int) (t27 : Bool × List DNode) (t28 : Int) (t29 : Int) : Option (Int ⊕ (Bool × List Int)) := (inf H).loop 203 2 (loopCode Tryz.f203 2) (wide, (vars, (pile, (many, (part, (own, (t27, (t28, t29))))))))
noncomputable def spec_l7Asks (p : DProgram) (t : Bool × List DNode) : Option Bool := (inf H).call 123 (p, t)
noncomputable def spec_l7Command (p : DProgram) (c : DCommand) : Option Bool := (inf H).call 269 (p, c)
theorem key_spec_l7Command : H.key 269 = some h_spec_l7Command := by kernel_rfl
noncomputable def spec_l7Command_L0 (p : DProgram) (c : DCommand) (t21 : Bool × List DChange) (t22 : Int) (t23 : Int) : Option (Bool ⊕ Unit) := (inf H).loop 269 0 (loopCode Tryz.f269 0) (p, (c, (t21, (t22, t23))))
noncomputable def spec_GoodProgram (p : DProgram) : Option Bool := (inf H).call 200 p
theorem key_spec_GoodProgram : H.key 200 = some h_spec_GoodProgram := by kernel_rfl
noncomputable def spec_GoodProgram_L0 (p : DProgram) (t18 : Bool × List DCommand) (t19 : Int) (t20 : Int) : Option (Bool ⊕ Unit) := (inf H).loop 200 0 (loopCode Tryz.f200 0) (p, (t18, (t19, t20)))
noncomputable def spec_l7Small (p : DProgram) : Option Bool := (inf H).call 121 p
noncomputable def spec_l10Need (op : Int) : Option Int := (inf H).call 270 op
noncomputable def spec_l10N (n : DSaid) : Option Bool := (inf H).call 271 n
noncomputable def spec_GoodSaid (f : Bool × List DSaid) : Option Bool := (inf H).call 201 f
theorem key_spec_GoodSaid : H.key 201 = some h_spec_GoodSaid := by kernel_rfl
noncomputable def spec_GoodSaid_L0 (pile : Int) (t11 : Bool × List DSaid) (t12 : Int) (t13 : Int) : Option (Bool ⊕ Int) := (inf H).loop 201 0 (loopCode Tryz.f201 0) (pile, (t11, (t12, t13)))
noncomputable def spec_l1Put (l : Bool × List Int) (n : Int) : Option (Bool × List Int) := (inf H).call 213 (l, n)
theorem key_spec_l1Put : H.key 213 = some h_spec_l1Put := by kernel_rfl
noncomputable def spec_l1Put_L0 (l : Bool × List Int) (n : Int) (k_ : Int) : Option Int := (inf H).loop 213 0 (loopCode Tryz.f213 0) (l, (n, k_))
noncomputable def spec_l13Tracked (f : Bool × List DSaid) : Option (Bool × List Int) := (inf H).call 202 f
theorem key_spec_l13Tracked : H.key 202 = some h_spec_l13Tracked := by kernel_rfl
noncomputable def spec_l13Tracked_L0 (out : Bool × List Int) (t10 : Bool × List DSaid) (t11 : Int) (t12 : Int) : Option (Bool × List Int) := (inf H).loop 202 0 (loopCode Tryz.f202 0) (out, (t10, (t11, t12)))
noncomputable def spec_l13Good (f : Bool × List DSaid) : Option Bool := (inf H).call 122 f
noncomputable def spec_GoodQuestion (q : DQuestion) : Option Bool := (inf H).call 59 q
theorem key_spec_GoodQuestion : H.key 59 = some h_spec_GoodQuestion := by kernel_rfl
noncomputable def spec_GoodQuestion_L0 (q : DQuestion) (t22 : Bool × List (Bool × List DNode)) (t23 : Int) (t24 : Int) : Option (Bool ⊕ Unit) := (inf H).loop 59 0 (loopCode Tryz.f59 0) (q, (t22, (t23, t24)))
noncomputable def spec_l15Preds (p : DProgram) (preds : Bool × List (Bool × List DNode)) : Option Bool := (inf H).call 60 (p, preds)
theorem key_spec_l15Preds : H.key 60 = some h_spec_l15Preds := by kernel_rfl
noncomputable def spec_l15Preds_L0 (p : DProgram) (t10 : Bool × List (Bool × List DNode)) (t11 : Int) (t12 : Int) : Option (Bool ⊕ Unit) := (inf H).loop 60 0 (loopCode Tryz.f60 0) (p, (t10, (t11, t12)))
noncomputable def spec_l7Many (p : DProgram) : Option Int := (inf H).call 159 p
noncomputable def spec_l7Of (p : DProgram) (no : Int) : Option (Bool × List Int) := (inf H).call 176 (p, no)
theorem key_spec_l7Of : H.key 176 = some h_spec_l7Of := by kernel_rfl
noncomputable def spec_l7Of_L0 (no : Int) (p : DProgram) (out : Bool × List Int) (v : Int) : Option (Bool × List Int) := (inf H).loop 176 0 (loopCode Tryz.f176 0) (no, (p, (out, v)))
noncomputable def spec_l2From (t : Bool × List DNode) (k_ : Int) : Option Int := (inf H).call 309 (t, k_)
theorem key_spec_l2From : H.key 309 = some h_spec_l2From := by kernel_rfl
noncomputable def spec_l2From_L0 (t : Bool × List DNode) (many : Int) (from_ : Int) : Option Int := (inf H).loop 309 0 (loopCode Tryz.f309 0) (t, (many, from_))
noncomputable def spec_l1Both (wide : Int) (a : Int) (b : Int) : Option Bool := (inf H).call 369 (wide, (a, b))
noncomputable def spec_DivWord (wide : Int) (a : Int) (b : Int) : Option (Int × Int × Bool) := (inf H).call 343 (wide, (a, b))
noncomputable def spec_l1Shift (wide : Int) (a : Int) (by_ : Int) (left_ : Bool) : Option Int := (inf H).call 344 (wide, (a, (by_, left_)))
theorem key_spec_l1Shift : H.key 344 = some h_spec_l1Shift := by kernel_rfl
noncomputable def spec_l1Shift_L0 (wide : Int) (a : Int) (by_ : Int) (left_ : Bool) : Option Int := (inf H).loop 344 0 (loopCode Tryz.f344 0) (wide, (a, (by_, left_)))
noncomputable def spec_l2Bool (is : Bool) : Option Int := (inf H).call 345 is
noncomputable def spec_l1Signed (wide : Int) (a : Int) : Option Int := (inf H).call 346 (wide, a)
noncomputable def spec_l2Do (wide : Int) (op : Int) (a : Int) (b : Int) : Option Int := (inf H).call 308 (wide, (op, (a, b)))
noncomputable def spec_l2Value (wide : Int) (t : Bool × List DNode) (k_ : Int) (state : Bool × List Int) : Option Int := (inf H).call 240 (wide, (t, (k_, state)))
noncomputable def spec_l7Holds (p : DProgram) (t : Bool × List DNode) (s : Bool × List Int) : Option Bool := (inf H).call 175 (p, (t, s))
noncomputable def spec_l8Those (p : DProgram) (t : Bool × List DNode) : Option (Bool × List Int) := (inf H).call 99 (p, t)
theorem key_spec_l8Those : H.key 99 = some h_spec_l8Those := by kernel_rfl
noncomputable def spec_l8Those_L0 (t : Bool × List DNode) (p : DProgram) (out : Bool × List Int) (no : Int) : Option (Bool × List Int) := (inf H).loop 99 0 (loopCode Tryz.f99 0) (t, (p, (out, no)))
noncomputable def spec_l1Has (l : Bool × List Int) (n : Int) : Option Bool := (inf H).call 98 (l, n)
theorem key_spec_l1Has : H.key 98 = some h_spec_l1Has := by kernel_rfl
noncomputable def spec_l1Has_L0 (n : Int) (t7 : Bool × List Int) (t8 : Int) (t9 : Int) : Option (Bool ⊕ Unit) := (inf H).loop 98 0 (loopCode Tryz.f98 0) (n, (t7, (t8, t9)))
noncomputable def spec_l15Of (keys : Bool × List Int) : Option (Bool × List Int) := (inf H).call 198 keys
theorem key_spec_l15Of : H.key 198 = some h_spec_l15Of := by kernel_rfl
noncomputable def spec_l15Of_L0 (keys : Bool × List Int) (t2 : DSight) (out : Bool × List Int) (many : Int) (t9 : Bool × List Int) (t10 : Int) (t11 : Int) : Option (Bool × List Int) := (inf H).loop 198 0 (loopCode Tryz.f198 0) (keys, (t2, (out, (many, (t9, (t10, t11))))))
noncomputable def spec_l15Of_L2 (keys : Bool × List Int) (t2 : DSight) (out : DSight) (many : Int) (i : Int) (key : Int) (class_ : Int) (j : Int) (t9 : Bool × List Int) (t10 : Int) (t11 : Int) : Option Int := (inf H).loop 198 2 (loopCode Tryz.f198 2) (keys, (t2, (out, (many, (i, (key, (class_, (j, (t9, (t10, t11))))))))))
noncomputable def spec_l15Cut (v : DSight) (some_ : Bool × List Int) : Option (Bool × List Int) := (inf H).call 118 (v, some_)
theorem key_spec_l15Cut : H.key 118 = some h_spec_l15Cut := by kernel_rfl
noncomputable def spec_l15Cut_L0 (some_ : Bool × List Int) (t4 : DSight) (keys : Bool × List Int) (t9 : Bool × List Int) (t10 : Int) (t11 : Int) : Option (Bool × List Int) := (inf H).loop 118 0 (loopCode Tryz.f118 0) (some_, (t4, (keys, (t9, (t10, t11)))))
noncomputable def spec_l15Split (p : DProgram) (v : DSight) (t : Bool × List DNode) : Option (Bool × List Int) := (inf H).call 85 (p, (v, t))
noncomputable def spec_l15By (p : DProgram) (preds : Bool × List (Bool × List DNode)) : Option (Bool × List Int) := (inf H).call 86 (p, preds)
theorem key_spec_l15By : H.key 86 = some h_spec_l15By := by kernel_rfl
noncomputable def spec_l15By_L0 (p : DProgram) (t4 : DSight) (v : Bool × List Int) (t12 : Bool × List (Bool × List DNode)) (t13 : Int) (t14 : Int) : Option (Bool × List Int) := (inf H).loop 86 0 (loopCode Tryz.f86 0) (p, (t4, (v, (t12, (t13, t14)))))
noncomputable def spec_l22For (q : DQuestion) (preds : Bool × List (Bool × List DNode)) : Option (Bool × List Int) := (inf H).call 61 (q, preds)
theorem key_spec_l22For : H.key 61 = some h_spec_l22For := by kernel_rfl
noncomputable def spec_l22For_L0 (q : DQuestion) (t4 : DSight) (v : Bool × List Int) (t13 : Bool × List (Bool × List DNode)) (t14 : Int) (t15 : Int) : Option (Bool × List Int) := (inf H).loop 61 0 (loopCode Tryz.f61 0) (q, (t4, (v, (t13, (t14, t15)))))
noncomputable def spec_SightFor (q : DQuestion) (preds : Bool × List (Bool × List DNode)) : Option ((Bool × List Int) × Bool) := (inf H).call 13 (q, preds)
noncomputable def impl_isWide (n : Int) : Option Bool := (inf H).call 275 n
noncomputable def impl_isVars (n : Int) : Option Bool := (inf H).call 276 n
noncomputable def impl_operandsOf (op : Int) : Option DEdge := (inf H).call 334 op
noncomputable def impl_mask (wide : Int) : Option Int := (inf H).call 183 wide
noncomputable def impl_GoodWord (wide : Int) (a : Int) : Option Bool := (inf H).call 364 (wide, a)
noncomputable def impl_isLeafRight (wide : Int) (vars : Int) (x : DNode) : Option Bool := (inf H).call 335 (wide, (vars, x))
noncomputable def impl_GoodTerm_1 (own : Int) (a1 : Int) : Option Bool := (inf H).call 336 (own, a1)
noncomputable def slices_IndexFunc_int_by_GoodTerm_1 (s : Bool × List Int) (f : Int × Unit) : Option Int := (inf H).call 152 (s, f)
theorem key_slices_IndexFunc_int_by_GoodTerm_1 : H.key 152 = some h_slices_IndexFunc_int_by_GoodTerm_1 := by kernel_rfl
noncomputable def slices_IndexFunc_int_by_GoodTerm_1_L0 (s : Bool × List Int) (f : Int × Unit) (t7 : Int) (t8 : Int) : Option (Int ⊕ Unit) := (inf H).loop 152 0 (loopCode Tryz.f152 0) (s, (f, (t7, t8)))
noncomputable def slices_ContainsFunc_int_by_GoodTerm_1 (s : Bool × List Int) (f : Int × Unit) : Option Bool := (inf H).call 144 (s, f)
noncomputable def impl_GoodTerm (wide : Int) (vars : Int) (t : Bool × List DNode) : Option Bool := (inf H).call 284 (wide, (vars, t))
theorem key_impl_GoodTerm : H.key 284 = some h_impl_GoodTerm := by kernel_rfl
noncomputable def impl_GoodTerm_L0 (wide : Int) (vars : Int) (stack : Bool × List Int) (t33 : Bool × List DNode) (t34 : Int) (t35 : Int) : Option (Bool ⊕ (Bool × List Int)) := (inf H).loop 284 0 (loopCode Tryz.f284 0) (wide, (vars, (stack, (t33, (t34, t35)))))
noncomputable def impl_kindOf (t : Bool × List DNode) : Option Int := (inf H).call 285 t
noncomputable def impl_isTermOf (wide : Int) (vars : Int) (t : Bool × List DNode) (kind : Int) : Option Bool := (inf H).call 208 (wide, (vars, (t, kind)))
noncomputable def impl_Program_isCondition (p : DProgram) (t : Bool × List DNode) : Option Bool := (inf H).call 129 (p, t)
noncomputable def impl_Program_isCommand (p : DProgram) (c : DCommand) : Option Bool := (inf H).call 279 (p, c)
theorem key_impl_Program_isCommand : H.key 279 = some h_impl_Program_isCommand := by kernel_rfl
noncomputable def impl_Program_isCommand_L0 (p : DProgram) (c : DCommand) (t13 : Bool × List DChange) (t14 : Int) (t15 : Int) : Option (Bool ⊕ Unit) := (inf H).loop 279 0 (loopCode Tryz.f279 0) (p, (c, (t13, (t14, t15))))
noncomputable def impl_GoodProgram_1 (c : DCommand) (a1 : DProgram) : Option Bool := (inf H).call 278 (c, a1)
noncomputable def slices_IndexFunc_Command_by_GoodProgram_1 (s : Bool × List DCommand) (f : DProgram × Unit) : Option Int := (inf H).call 331 (s, f)
theorem key_slices_IndexFunc_Command_by_GoodProgram_1 : H.key 331 = some h_slices_IndexFunc_Command_by_GoodProgram_1 := by kernel_rfl
noncomputable def slices_IndexFunc_Command_by_GoodProgram_1_L0 (s : Bool × List DCommand) (f : DProgram × Unit) (t7 : Int) (t8 : Int) : Option (Int ⊕ Unit) := (inf H).loop 331 0 (loopCode Tryz.f331 0) (s, (f, (t7, t8)))
noncomputable def slices_ContainsFunc_Command_by_GoodProgram_1 (s : Bool × List DCommand) (f : DProgram × Unit) : Option Bool := (inf H).call 277 (s, f)
noncomputable def impl_GoodProgram (p : DProgram) : Option Bool := (inf H).call 204 p
noncomputable def impl_isSmall (p : DProgram) : Option Bool := (inf H).call 125 p
noncomputable def impl_operandsOfSaid (op : Int) : Option Int := (inf H).call 185 op
noncomputable def impl_isSaid (x : DSaid) : Option Bool := (inf H).call 280 x
noncomputable def impl_GoodSaid (f : Bool × List DSaid) : Option Bool := (inf H).call 205 f
theorem key_impl_GoodSaid : H.key 205 = some h_impl_GoodSaid := by kernel_rfl
noncomputable def impl_GoodSaid_L0 (values : Int) (t15 : Bool × List DSaid) (t16 : Int) (t17 : Int) : Option (Bool ⊕ Int) := (inf H).loop 205 0 (loopCode Tryz.f205 0) (values, (t15, (t16, t17)))
noncomputable def slices_Clone_int (s : Bool × List Int) : Option (Bool × List Int) := (inf H).call 158 s
noncomputable def impl_operandIndexes (f : Bool × List DSaid) : Option (Bool × List (Bool × List Int)) := (inf H).call 281 f
theorem key_impl_operandIndexes : H.key 281 = some h_impl_operandIndexes := by kernel_rfl
noncomputable def impl_operandIndexes_L0 (out : Bool × List (Bool × List Int)) (stack : Bool × List Int) (t10 : Bool × List DSaid) (t11 : Int) (t12 : Int) : Option (Bool × List (Bool × List Int)) := (inf H).loop 281 0 (loopCode Tryz.f281 0) (out, (stack, (t10, (t11, t12))))
noncomputable def slices_Sort_int (s : Bool × List Int) : Option (Bool × List Int) := (inf H).call 282 s
noncomputable def slices_Compact_int (s : Bool × List Int) : Option (Bool × List Int) := (inf H).call 283 s
noncomputable def impl_tracked (f : Bool × List DSaid) : Option (Bool × List Int) := (inf H).call 206 f
theorem key_impl_tracked : H.key 206 = some h_impl_tracked := by kernel_rfl
noncomputable def impl_tracked_L0 (out : Bool × List Int) (operands : Bool × List (Bool × List Int)) (t13 : Bool × List DSaid) (t14 : Int) (t15 : Int) : Option (Bool × List Int) := (inf H).loop 206 0 (loopCode Tryz.f206 0) (out, (operands, (t13, (t14, t15))))
noncomputable def impl_isTracked (f : Bool × List DSaid) : Option Bool := (inf H).call 126 f
noncomputable def impl_GoodQuestion_1 (t : Bool × List DNode) (a1 : DQuestion) : Option Bool := (inf H).call 128 (t, a1)
noncomputable def slices_IndexFunc_Node_by_GoodQuestion_1 (s : Bool × List (Bool × List DNode)) (f : DQuestion × Unit) : Option Int := (inf H).call 207 (s, f)
theorem key_slices_IndexFunc_Node_by_GoodQuestion_1 : H.key 207 = some h_slices_IndexFunc_Node_by_GoodQuestion_1 := by kernel_rfl
noncomputable def slices_IndexFunc_Node_by_GoodQuestion_1_L0 (s : Bool × List (Bool × List DNode)) (f : DQuestion × Unit) (t7 : Int) (t8 : Int) : Option (Int ⊕ Unit) := (inf H).loop 207 0 (loopCode Tryz.f207 0) (s, (f, (t7, t8)))
noncomputable def slices_ContainsFunc_Node_by_GoodQuestion_1 (s : Bool × List (Bool × List DNode)) (f : DQuestion × Unit) : Option Bool := (inf H).call 127 (s, f)
noncomputable def impl_GoodQuestion (q : DQuestion) : Option Bool := (inf H).call 63 q
noncomputable def impl_Program_arePreds_1 (t : Bool × List DNode) (a1 : DProgram) : Option Bool := (inf H).call 130 (t, a1)
noncomputable def slices_IndexFunc_Node_by_Program_arePreds_1 (s : Bool × List (Bool × List DNode)) (f : DProgram × Unit) : Option Int := (inf H).call 10094 (s, f)
theorem key_slices_IndexFunc_Node_by_Program_arePreds_1 : H.key 10094 = some h_slices_IndexFunc_Node_by_Program_arePreds_1 := by kernel_rfl
noncomputable def slices_IndexFunc_Node_by_Program_arePreds_1_L0 (s : Bool × List (Bool × List DNode)) (f : DProgram × Unit) (t7 : Int) (t8 : Int) : Option (Int ⊕ Unit) := (inf H).loop 10094 0 (loopCode Tryz.f207 0) (s, (f, (t7, t8)))
noncomputable def slices_ContainsFunc_Node_by_Program_arePreds_1 (s : Bool × List (Bool × List DNode)) (f : DProgram × Unit) : Option Bool := (inf H).call 10093 (s, f)
noncomputable def impl_Program_arePreds (p : DProgram) (preds : Bool × List (Bool × List DNode)) (least : Int) : Option Bool := (inf H).call 64 (p, (preds, least))
noncomputable def slices_Grow_NodeS (n : Int) : Option (Bool × List (Bool × List DNode)) := (inf H).call 133 n
noncomputable def slices_Concat_NodeS (slices : Bool × List (Bool × List (Bool × List DNode))) : Option (Bool × List (Bool × List DNode)) := (inf H).call 66 slices
theorem key_slices_Concat_NodeS : H.key 66 = some h_slices_Concat_NodeS := by kernel_rfl
noncomputable def slices_Concat_NodeS_L0 (slices : Bool × List (Bool × List (Bool × List DNode))) (size_ : Int) (t9 : Bool × List (Bool × List (Bool × List DNode))) (t10 : Int) (t11 : Int) : Option Int := (inf H).loop 66 0 (loopCode Tryz.f66 0) (slices, (size_, (t9, (t10, t11))))
noncomputable def slices_Concat_NodeS_L2 (newslice : Bool × List (Bool × List DNode)) (t25 : Bool × List (Bool × List (Bool × List DNode))) (t26 : Int) (t27 : Int) : Option (Bool × List (Bool × List DNode)) := (inf H).loop 66 2 (loopCode Tryz.f66 2) (newslice, (t25, (t26, t27)))
noncomputable def impl_Program_states (p : DProgram) : Option Int := (inf H).call 131 p
noncomputable def impl_Program_stateOf (p : DProgram) (no : Int) : Option (Bool × List Int) := (inf H).call 106 (p, no)
theorem key_impl_Program_stateOf : H.key 106 = some h_impl_Program_stateOf := by kernel_rfl
noncomputable def impl_Program_stateOf_L0 (no : Int) (p : DProgram) (out : Bool × List Int) (t9 : Int) (t10 : Int) : Option (Bool × List Int) := (inf H).loop 106 0 (loopCode Tryz.f106 0) (no, (p, (out, (t9, t10))))
noncomputable def impl_areWords (wide : Int) (a : Int) (b : Int) : Option Bool := (inf H).call 347 (wide, (a, b))
noncomputable def bits_Div64 (hi : Int) (lo : Int) (y : Int) : Option (Int × Int) := (inf H).call 348 (hi, (lo, y))
noncomputable def impl_DivWord (wide : Int) (a : Int) (b : Int) : Option (Int × Int × Bool) := (inf H).call 311 (wide, (a, b))
noncomputable def impl_shift (wide : Int) (a : Int) (by_ : Int) (left_ : Bool) : Option Int := (inf H).call 312 (wide, (a, (by_, left_)))
noncomputable def impl_truth (holds : Bool) : Option Int := (inf H).call 313 holds
noncomputable def impl_signed (wide : Int) (a : Int) : Option Int := (inf H).call 314 (wide, a)
noncomputable def impl_apply (wide : Int) (op : Int) (a : Int) (b : Int) : Option Int := (inf H).call 243 (wide, (op, (a, b)))
noncomputable def impl_valueOf (wide : Int) (t : Bool × List DNode) (state : Bool × List Int) : Option Int := (inf H).call 182 (wide, (t, state))
theorem key_impl_valueOf : H.key 182 = some h_impl_valueOf := by kernel_rfl
noncomputable def impl_valueOf_L0 (wide : Int) (state : Bool × List Int) (stack : Bool × List Int) (t12 : Bool × List DNode) (t13 : Int) (t14 : Int) : Option (Bool × List Int) := (inf H).loop 182 0 (loopCode Tryz.f182 0) (wide, (state, (stack, (t12, (t13, t14)))))
noncomputable def impl_numbered (keys : Bool × List DSaid) : Option (Bool × List Int) := (inf H).call 286 keys
theorem key_impl_numbered : H.key 286 = some h_impl_numbered := by kernel_rfl
noncomputable def impl_numbered_L0 (t2 : DSight) (known : Bool × List (DSaid × Int)) (v : Bool × List Int) (t11 : Bool × List DSaid) (t12 : Int) (t13 : Int) : Option ((Bool × List (DSaid × Int)) × Bool × List Int) := (inf H).loop 286 0 (loopCode Tryz.f286 0) (t2, (known, (v, (t11, (t12, t13)))))
noncomputable def impl_SightBy (p : DProgram) (preds : Bool × List (Bool × List DNode)) : Option ((Bool × List Int) × Bool) := (inf H).call 209 (p, preds)
theorem key_impl_SightBy : H.key 209 = some h_impl_SightBy := by kernel_rfl
noncomputable def impl_SightBy_L0 (preds : Bool × List (Bool × List DNode)) (p : DProgram) (t4 : DSight) (keys : Bool × List DSaid) (t25 : Int) (t26 : Int) : Option (Bool × List DSaid) := (inf H).loop 209 0 (loopCode Tryz.f209 0) (preds, (p, (t4, (keys, (t25, t26)))))
noncomputable def impl_SightBy_L2 (preds : Bool × List (Bool × List DNode)) (p : DProgram) (t4 : DSight) (keys : Bool × List DSaid) (no : Int) (s : Bool × List Int) (t25 : Int) (t26 : Int) (t32 : Bool × List (Bool × List DNode)) (t33 : Int) (t34 : Int) : Option (Bool × List DSaid) := (inf H).loop 209 2 (loopCode Tryz.f209 2) (preds, (p, (t4, (keys, (no, (s, (t25, (t26, (t32, (t33, t34))))))))))
noncomputable def impl_isSight (v : DSight) (states : Int) : Option Bool := (inf H).call 218 (v, states)
theorem key_impl_isSight : H.key 218 = some h_impl_isSight := by kernel_rfl
noncomputable def impl_isSight_L0 (states : Int) (v : DSight) (classes : Int) (t9 : Bool × List Int) (t10 : Int) (t11 : Int) : Option (Bool ⊕ Unit) := (inf H).loop 218 0 (loopCode Tryz.f218 0) (states, (v, (classes, (t9, (t10, t11)))))
noncomputable def impl_GoodSight (p : DProgram) (v : DSight) : Option Bool := (inf H).call 142 (p, v)
noncomputable def impl_meetOf (a : DSight) (b : DSight) : Option (Bool × List Int) := (inf H).call 210 (a, b)
theorem key_impl_meetOf : H.key 210 = some h_impl_meetOf := by kernel_rfl
noncomputable def impl_meetOf_L0 (b : DSight) (t4 : DSight) (keys : Bool × List DSaid) (t10 : Bool × List Int) (t11 : Int) (t12 : Int) : Option (Bool × List DSaid) := (inf H).loop 210 0 (loopCode Tryz.f210 0) (b, (t4, (keys, (t10, (t11, t12)))))
noncomputable def impl_SplitBy (p : DProgram) (v : DSight) (t : Bool × List DNode) : Option ((Bool × List Int) × Bool) := (inf H).call 132 (p, (v, t))
noncomputable def impl_sightOf (p : DProgram) (preds : Bool × List (Bool × List DNode)) : Option (Bool × List Int) := (inf H).call 65 (p, preds)
theorem key_impl_sightOf : H.key 65 = some h_impl_sightOf := by kernel_rfl
noncomputable def impl_sightOf_L0 (p : DProgram) (t4 : DSight) (v : Bool × List Int) (t12 : Bool × List (Bool × List DNode)) (t13 : Int) (t14 : Int) : Option (Bool × List Int) := (inf H).loop 65 0 (loopCode Tryz.f65 0) (p, (t4, (v, (t12, (t13, t14)))))
noncomputable def impl_SightFor (q : DQuestion) (preds : Bool × List (Bool × List DNode)) : Option ((Bool × List Int) × Bool) := (inf H).call 16 (q, preds)
noncomputable def laws_eqIntS (a : Bool × List Int) (b : Bool × List Int) : Option Bool := (inf H).call 31 (a, b)
theorem key_laws_eqIntS : H.key 31 = some h_laws_eqIntS := by kernel_rfl
noncomputable def laws_eqIntS_L0 (a : Bool × List Int) (b : Bool × List Int) (i : Int) : Option (Bool ⊕ Unit) := (inf H).loop 31 0 (loopCode Tryz.f31 0) (a, (b, i))
noncomputable def laws_eqSight (a : DSight) (b : DSight) : Option Bool := (inf H).call 17 (a, b)
noncomputable def laws_eqNode (a : DNode) (b : DNode) : Option Bool := (inf H).call 92 (a, b)
noncomputable def laws_eqNodeS (a : Bool × List DNode) (b : Bool × List DNode) : Option Bool := (inf H).call 43 (a, b)
theorem key_laws_eqNodeS : H.key 43 = some h_laws_eqNodeS := by kernel_rfl
noncomputable def laws_eqNodeS_L0 (a : Bool × List DNode) (b : Bool × List DNode) (i : Int) : Option (Bool ⊕ Unit) := (inf H).loop 43 0 (loopCode Tryz.f43 0) (a, (b, i))
noncomputable def laws_eqChange (a : DChange) (b : DChange) : Option Bool := (inf H).call 291 (a, b)
noncomputable def laws_eqChangeS (a : Bool × List DChange) (b : Bool × List DChange) : Option Bool := (inf H).call 225 (a, b)
theorem key_laws_eqChangeS : H.key 225 = some h_laws_eqChangeS := by kernel_rfl
noncomputable def laws_eqChangeS_L0 (a : Bool × List DChange) (b : Bool × List DChange) (i : Int) : Option (Bool ⊕ Unit) := (inf H).loop 225 0 (loopCode Tryz.f225 0) (a, (b, i))
noncomputable def laws_eqCommand (a : DCommand) (b : DCommand) : Option Bool := (inf H).call 154 (a, b)
noncomputable def laws_eqCommandS (a : Bool × List DCommand) (b : Bool × List DCommand) : Option Bool := (inf H).call 78 (a, b)
theorem key_laws_eqCommandS : H.key 78 = some h_laws_eqCommandS := by kernel_rfl
noncomputable def laws_eqCommandS_L0 (a : Bool × List DCommand) (b : Bool × List DCommand) (i : Int) : Option (Bool ⊕ Unit) := (inf H).loop 78 0 (loopCode Tryz.f78 0) (a, (b, i))
noncomputable def laws_eqProgram (a : DProgram) (b : DProgram) : Option Bool := (inf H).call 32 (a, b)
noncomputable def laws_eqNodeSS (a : Bool × List (Bool × List DNode)) (b : Bool × List (Bool × List DNode)) : Option Bool := (inf H).call 19 (a, b)
theorem key_laws_eqNodeSS : H.key 19 = some h_laws_eqNodeSS := by kernel_rfl
noncomputable def laws_eqNodeSS_L0 (a : Bool × List (Bool × List DNode)) (b : Bool × List (Bool × List DNode)) (i : Int) : Option (Bool ⊕ Unit) := (inf H).loop 19 0 (loopCode Tryz.f19 0) (a, (b, i))
noncomputable def laws_eqSaid (a : DSaid) (b : DSaid) : Option Bool := (inf H).call 134 (a, b)
noncomputable def laws_eqSaidS (a : Bool × List DSaid) (b : Bool × List DSaid) : Option Bool := (inf H).call 67 (a, b)
theorem key_laws_eqSaidS : H.key 67 = some h_laws_eqSaidS := by kernel_rfl
noncomputable def laws_eqSaidS_L0 (a : Bool × List DSaid) (b : Bool × List DSaid) (i : Int) : Option (Bool ⊕ Unit) := (inf H).loop 67 0 (loopCode Tryz.f67 0) (a, (b, i))
noncomputable def laws_eqQuestion (a : DQuestion) (b : DQuestion) : Option Bool := (inf H).call 18 (a, b)
noncomputable def laws_markNodeS (a : Bool × List DNode) (k_ : Int) : Option ((Bool × List DNode) × Int) := (inf H).call 44 (a, k_)
theorem key_laws_markNodeS : H.key 44 = some h_laws_markNodeS := by kernel_rfl
noncomputable def laws_markNodeS_L0 (a : Bool × List DNode) (k_ : Int) (i : Int) : Option ((Bool × List DNode) × Int) := (inf H).loop 44 0 (loopCode Tryz.f44 0) (a, (k_, i))
noncomputable def laws_markChangeS (a : Bool × List DChange) (k_ : Int) : Option ((Bool × List DChange) × Int) := (inf H).call 155 (a, k_)
theorem key_laws_markChangeS : H.key 155 = some h_laws_markChangeS := by kernel_rfl
noncomputable def laws_markChangeS_L0 (a : Bool × List DChange) (k_ : Int) (i : Int) : Option ((Bool × List DChange) × Int) := (inf H).loop 155 0 (loopCode Tryz.f155 0) (a, (k_, i))
noncomputable def laws_markCommandS (a : Bool × List DCommand) (k_ : Int) : Option ((Bool × List DCommand) × Int) := (inf H).call 79 (a, k_)
theorem key_laws_markCommandS : H.key 79 = some h_laws_markCommandS := by kernel_rfl
noncomputable def laws_markCommandS_L0 (a : Bool × List DCommand) (k_ : Int) (i : Int) : Option ((Bool × List DCommand) × Int) := (inf H).loop 79 0 (loopCode Tryz.f79 0) (a, (k_, i))
noncomputable def laws_markProgram (a0_0 : Int) (a0_1 : Int) (a0_2 : Bool × List DNode) (a0_3 : Bool × List DCommand) (k_ : Int) : Option ((Bool × List DNode) × (Bool × List DCommand) × Int) := (inf H).call 33 (a0_0, (a0_1, (a0_2, (a0_3, k_))))
noncomputable def laws_markNodeSS (a : Bool × List (Bool × List DNode)) (k_ : Int) : Option ((Bool × List (Bool × List DNode)) × Int) := (inf H).call 21 (a, k_)
theorem key_laws_markNodeSS : H.key 21 = some h_laws_markNodeSS := by kernel_rfl
noncomputable def laws_markNodeSS_L0 (a : Bool × List (Bool × List DNode)) (k_ : Int) (i : Int) : Option ((Bool × List (Bool × List DNode)) × Int) := (inf H).loop 21 0 (loopCode Tryz.f21 0) (a, (k_, i))
noncomputable def laws_markSaidS (a : Bool × List DSaid) (k_ : Int) : Option ((Bool × List DSaid) × Int) := (inf H).call 68 (a, k_)
theorem key_laws_markSaidS : H.key 68 = some h_laws_markSaidS := by kernel_rfl
noncomputable def laws_markSaidS_L0 (a : Bool × List DSaid) (k_ : Int) (i : Int) : Option ((Bool × List DSaid) × Int) := (inf H).loop 68 0 (loopCode Tryz.f68 0) (a, (k_, i))
noncomputable def laws_markQuestion (a0_0 : Int) (a0_1 : Int) (a0_2 : Bool × List DNode) (a0_3 : Bool × List DCommand) (a0_4 : Bool × List (Bool × List DNode)) (a0_5 : Bool × List DSaid) (k_ : Int) : Option ((Bool × List DNode) × (Bool × List DCommand) × (Bool × List (Bool × List DNode)) × (Bool × List DSaid) × Int) := (inf H).call 20 (a0_0, (a0_1, (a0_2, (a0_3, (a0_4, (a0_5, k_))))))
noncomputable def laws_markIntS (a : Bool × List Int) (k_ : Int) : Option ((Bool × List Int) × Int) := (inf H).call 34 (a, k_)
theorem key_laws_markIntS : H.key 34 = some h_laws_markIntS := by kernel_rfl
noncomputable def laws_markIntS_L0 (a : Bool × List Int) (k_ : Int) (i : Int) : Option ((Bool × List Int) × Int) := (inf H).loop 34 0 (loopCode Tryz.f34 0) (a, (k_, i))
noncomputable def laws_markSight (a : Bool × List Int) (k_ : Int) : Option ((Bool × List Int) × Int) := (inf H).call 22 (a, k_)
noncomputable def laws_heldIntS (a : Bool × List Int) (k_ : Int) : Option Int := (inf H).call 35 (a, k_)
theorem key_laws_heldIntS : H.key 35 = some h_laws_heldIntS := by kernel_rfl
noncomputable def laws_heldIntS_L0 (a : Bool × List Int) (k_ : Int) (i : Int) : Option (Int ⊕ Int) := (inf H).loop 35 0 (loopCode Tryz.f35 0) (a, (k_, i))
noncomputable def laws_heldSight (a : DSight) (k_ : Int) : Option Int := (inf H).call 23 (a, k_)
noncomputable def laws_FnExactSightFor (aQ : DQuestion) (aPreds : Bool × List (Bool × List DNode)) : Option Bool := (inf H).call 3 (aQ, aPreds)
theorem laws_szNodeS_eq (a : Bool × List DNode) (left_ : Int) : laws_szNodeS a left_ =
 bif decide ((IntKind.i64.wrap (left_ - (a.2.length : Int))) < 0) then
 some (-1)
else 
 some (IntKind.i64.wrap (left_ - (a.2.length : Int))) := Eq.trans (inf_call_eq (H := H) 38 (a, left_)) (by kernel_rfl)
theorem laws_szChange_eq (a : DChange) (left_ : Int) : laws_szChange a left_ =
(laws_szNodeS a.2 left_).bind fun r =>
 bif decide (r < 0) then
 some (-1)
else 
 some r := Eq.trans (inf_call_eq (H := H) 287 (a, left_)) (by kernel_rfl)
theorem laws_szChangeS_L0_eq (a : Bool × List DChange) (left_ : Int) (i : Int) : laws_szChangeS_L0 a left_ i =
 bif decide (i < (a.2.length : Int)) then
 bif decide (0 ≤ i) then
 bif decide (i < (a.2.length : Int)) then
(laws_szChange (a.2.getD (Int.toNat i) (0, (true, []))) left_).bind fun r =>
 bif decide (r < 0) then
 some (.inl (-1))
else 
(laws_szChangeS_L0 a r (IntKind.i64.wrap (i + 1))).bind fun r => some r
else none
else none
else 
 some (.inr left_) := Eq.trans (inf_loop_eq (H := H) 211 0 (loopCode Tryz.f211 0) (a, (left_, i)) key_laws_szChangeS) (by kernel_rfl)
theorem laws_szChangeS_eq (a : Bool × List DChange) (left_ : Int) : laws_szChangeS a left_ =
 bif decide ((IntKind.i64.wrap (left_ - (a.2.length : Int))) < 0) then
 some (-1)
else 
(laws_szChangeS_L0 a (IntKind.i64.wrap (left_ - (a.2.length : Int))) 0).bind fun r =>
 match r with
| .inl y =>
 some y
| .inr z =>
 some z := Eq.trans (inf_call_eq (H := H) 211 (a, left_)) (by kernel_rfl)
theorem laws_szCommand_eq (a : DCommand) (left_ : Int) : laws_szCommand a left_ =
(laws_szNodeS a.1 left_).bind fun r =>
 bif decide (r < 0) then
 some (-1)
else 
(laws_szChangeS a.2 r).bind fun r1 =>
 bif decide (r1 < 0) then
 some (-1)
else 
 some r1 := Eq.trans (inf_call_eq (H := H) 135 (a, left_)) (by kernel_rfl)
theorem laws_szCommandS_L0_eq (a : Bool × List DCommand) (left_ : Int) (i : Int) : laws_szCommandS_L0 a left_ i =
 bif decide (i < (a.2.length : Int)) then
 bif decide (0 ≤ i) then
 bif decide (i < (a.2.length : Int)) then
(laws_szCommand (a.2.getD (Int.toNat i) ((true, []), (true, []))) left_).bind fun r =>
 bif decide (r < 0) then
 some (.inl (-1))
else 
(laws_szCommandS_L0 a r (IntKind.i64.wrap (i + 1))).bind fun r => some r
else none
else none
else 
 some (.inr left_) := Eq.trans (inf_loop_eq (H := H) 69 0 (loopCode Tryz.f69 0) (a, (left_, i)) key_laws_szCommandS) (by kernel_rfl)
theorem laws_szCommandS_eq (a : Bool × List DCommand) (left_ : Int) : laws_szCommandS a left_ =
 bif decide ((IntKind.i64.wrap (left_ - (a.2.length : Int))) < 0) then
 some (-1)
else 
(laws_szCommandS_L0 a (IntKind.i64.wrap (left_ - (a.2.length : Int))) 0).bind fun r =>
 match r with
| .inl y =>
 some y
| .inr z =>
 some z := Eq.trans (inf_call_eq (H := H) 69 (a, left_)) (by kernel_rfl)
theorem laws_szProgram_eq (a : DProgram) (left_ : Int) : laws_szProgram a left_ =
(laws_szNodeS a.2.2.1 left_).bind fun r =>
 bif decide (r < 0) then
 some (-1)
else 
(laws_szCommandS a.2.2.2 r).bind fun r1 =>
 bif decide (r1 < 0) then
 some (-1)
else 
 some r1 := Eq.trans (inf_call_eq (H := H) 24 (a, left_)) (by kernel_rfl)
theorem laws_szNodeSS_L0_eq (a : Bool × List (Bool × List DNode)) (left_ : Int) (i : Int) : laws_szNodeSS_L0 a left_ i =
 bif decide (i < (a.2.length : Int)) then
 bif decide (0 ≤ i) then
 bif decide (i < (a.2.length : Int)) then
(laws_szNodeS (a.2.getD (Int.toNat i) (true, [])) left_).bind fun r =>
 bif decide (r < 0) then
 some (.inl (-1))
else 
(laws_szNodeSS_L0 a r (IntKind.i64.wrap (i + 1))).bind fun r => some r
else none
else none
else 
 some (.inr left_) := Eq.trans (inf_loop_eq (H := H) 12 0 (loopCode Tryz.f12 0) (a, (left_, i)) key_laws_szNodeSS) (by kernel_rfl)
theorem laws_szNodeSS_eq (a : Bool × List (Bool × List DNode)) (left_ : Int) : laws_szNodeSS a left_ =
 bif decide ((IntKind.i64.wrap (left_ - (a.2.length : Int))) < 0) then
 some (-1)
else 
(laws_szNodeSS_L0 a (IntKind.i64.wrap (left_ - (a.2.length : Int))) 0).bind fun r =>
 match r with
| .inl y =>
 some y
| .inr z =>
 some z := Eq.trans (inf_call_eq (H := H) 12 (a, left_)) (by kernel_rfl)
theorem laws_szSaidS_eq (a : Bool × List DSaid) (left_ : Int) : laws_szSaidS a left_ =
 bif decide ((IntKind.i64.wrap (left_ - (a.2.length : Int))) < 0) then
 some (-1)
else 
 some (IntKind.i64.wrap (left_ - (a.2.length : Int))) := Eq.trans (inf_call_eq (H := H) 58 (a, left_)) (by kernel_rfl)
theorem laws_szQuestion_eq (a : DQuestion) (left_ : Int) : laws_szQuestion a left_ =
(laws_szProgram a.1 left_).bind fun r =>
 bif decide (r < 0) then
 some (-1)
else 
(laws_szNodeSS a.2.1 r).bind fun r1 =>
 bif decide (r1 < 0) then
 some (-1)
else 
(laws_szSaidS a.2.2 r1).bind fun r2 =>
 bif decide (r2 < 0) then
 some (-1)
else 
 some r2 := Eq.trans (inf_call_eq (H := H) 11 (a, left_)) (by kernel_rfl)
theorem laws_toNode_eq (a : DNode) : laws_toNode a =
 some (a.1, a.2) := Eq.trans (inf_call_eq (H := H) 89 a) (by kernel_rfl)
theorem laws_toNodeS_L0_eq (a : Bool × List DNode) (out : Bool × List DNode) (i : Int) : laws_toNodeS_L0 a out i =
 bif decide (i < (a.2.length : Int)) then
 bif decide (0 ≤ i) then
 bif decide (i < (a.2.length : Int)) then
(laws_toNode (a.2.getD (Int.toNat i) (0, 0))).bind fun r =>
 bif decide (0 ≤ i) then
 bif decide (i < (out.2.length : Int)) then
(laws_toNodeS_L0 a (out.1, (out.2.set (Int.toNat i) r)) (IntKind.i64.wrap (i + 1))).bind fun r => some r
else none
else none
else none
else none
else 
 some (out.1, out.2) := Eq.trans (inf_loop_eq (H := H) 40 0 (loopCode Tryz.f40 0) (a, (out, i)) key_laws_toNodeS) (by kernel_rfl)
theorem laws_toNodeS_eq (a : Bool × List DNode) : laws_toNodeS a =
 bif decide (0 ≤ (a.2.length : Int)) then
 bif decide ((a.2.length : Int) ≤ lim) then
 bif decide ((a.2.length : Int) ≤ (a.2.length : Int)) then
 bif decide ((a.2.length : Int) ≤ lim) then
(laws_toNodeS_L0 a (false, (List.replicate (Int.toNat (a.2.length : Int)) ((0, 0) : DNode))) 0).bind fun r =>
 some (r.1, r.2)
else none
else none
else none
else none := Eq.trans (inf_call_eq (H := H) 40 a) (by kernel_rfl)
theorem laws_toChange_eq (a : DChange) : laws_toChange a =
(laws_toNodeS a.2).bind fun r =>
 some (a.1, (r.1, r.2)) := Eq.trans (inf_call_eq (H := H) 288 a) (by kernel_rfl)
theorem laws_toChangeS_L0_eq (a : Bool × List DChange) (out : Bool × List DChange) (i : Int) : laws_toChangeS_L0 a out i =
 bif decide (i < (a.2.length : Int)) then
 bif decide (0 ≤ i) then
 bif decide (i < (a.2.length : Int)) then
(laws_toChange (a.2.getD (Int.toNat i) (0, (true, [])))).bind fun r =>
 bif decide (0 ≤ i) then
 bif decide (i < (out.2.length : Int)) then
(laws_toChangeS_L0 a (out.1, (out.2.set (Int.toNat i) (r.1, (r.2.1, r.2.2)))) (IntKind.i64.wrap (i + 1))).bind fun r => some r
else none
else none
else none
else none
else 
 some (out.1, out.2) := Eq.trans (inf_loop_eq (H := H) 217 0 (loopCode Tryz.f217 0) (a, (out, i)) key_laws_toChangeS) (by kernel_rfl)
theorem laws_toChangeS_eq (a : Bool × List DChange) : laws_toChangeS a =
 bif decide (0 ≤ (a.2.length : Int)) then
 bif decide ((a.2.length : Int) ≤ lim) then
 bif decide ((a.2.length : Int) ≤ (a.2.length : Int)) then
 bif decide ((a.2.length : Int) ≤ lim) then
(laws_toChangeS_L0 a (false, (List.replicate (Int.toNat (a.2.length : Int)) ((0, (true, [])) : DChange))) 0).bind fun r =>
 some (r.1, r.2)
else none
else none
else none
else none := Eq.trans (inf_call_eq (H := H) 217 a) (by kernel_rfl)
theorem laws_toCommand_eq (a : DCommand) : laws_toCommand a =
(laws_toNodeS a.1).bind fun r =>
(laws_toChangeS a.2).bind fun r1 =>
 some ((r.1, r.2), (r1.1, r1.2)) := Eq.trans (inf_call_eq (H := H) 141 a) (by kernel_rfl)
theorem laws_toCommandS_L0_eq (a : Bool × List DCommand) (out : Bool × List DCommand) (i : Int) : laws_toCommandS_L0 a out i =
 bif decide (i < (a.2.length : Int)) then
 bif decide (0 ≤ i) then
 bif decide (i < (a.2.length : Int)) then
(laws_toCommand (a.2.getD (Int.toNat i) ((true, []), (true, [])))).bind fun r =>
 bif decide (0 ≤ i) then
 bif decide (i < (out.2.length : Int)) then
(laws_toCommandS_L0 a (out.1, (out.2.set (Int.toNat i) ((r.1.1, r.1.2), (r.2.1, r.2.2)))) (IntKind.i64.wrap (i + 1))).bind fun r => some r
else none
else none
else none
else none
else 
 some (out.1, out.2) := Eq.trans (inf_loop_eq (H := H) 75 0 (loopCode Tryz.f75 0) (a, (out, i)) key_laws_toCommandS) (by kernel_rfl)
theorem laws_toCommandS_eq (a : Bool × List DCommand) : laws_toCommandS a =
 bif decide (0 ≤ (a.2.length : Int)) then
 bif decide ((a.2.length : Int) ≤ lim) then
 bif decide ((a.2.length : Int) ≤ (a.2.length : Int)) then
 bif decide ((a.2.length : Int) ≤ lim) then
(laws_toCommandS_L0 a (false, (List.replicate (Int.toNat (a.2.length : Int)) (((true, []), (true, [])) : DCommand))) 0).bind fun r =>
 some (r.1, r.2)
else none
else none
else none
else none := Eq.trans (inf_call_eq (H := H) 75 a) (by kernel_rfl)
theorem laws_toProgram_eq (a : DProgram) : laws_toProgram a =
(laws_toNodeS a.2.2.1).bind fun r =>
(laws_toCommandS a.2.2.2).bind fun r1 =>
 some (a.1, (a.2.1, ((r.1, r.2), (r1.1, r1.2)))) := Eq.trans (inf_call_eq (H := H) 27 a) (by kernel_rfl)
theorem laws_toNodeSS_L0_eq (a : Bool × List (Bool × List DNode)) (out : Bool × List (Bool × List DNode)) (i : Int) : laws_toNodeSS_L0 a out i =
 bif decide (i < (a.2.length : Int)) then
 bif decide (0 ≤ i) then
 bif decide (i < (a.2.length : Int)) then
(laws_toNodeS (a.2.getD (Int.toNat i) (true, []))).bind fun r =>
 bif decide (0 ≤ i) then
 bif decide (i < (out.2.length : Int)) then
(laws_toNodeSS_L0 a (out.1, (out.2.set (Int.toNat i) (r.1, r.2))) (IntKind.i64.wrap (i + 1))).bind fun r => some r
else none
else none
else none
else none
else 
 some (out.1, out.2) := Eq.trans (inf_loop_eq (H := H) 15 0 (loopCode Tryz.f15 0) (a, (out, i)) key_laws_toNodeSS) (by kernel_rfl)
theorem laws_toNodeSS_eq (a : Bool × List (Bool × List DNode)) : laws_toNodeSS a =
 bif decide (0 ≤ (a.2.length : Int)) then
 bif decide ((a.2.length : Int) ≤ lim) then
 bif decide ((a.2.length : Int) ≤ (a.2.length : Int)) then
 bif decide ((a.2.length : Int) ≤ lim) then
(laws_toNodeSS_L0 a (false, (List.replicate (Int.toNat (a.2.length : Int)) ((true, []) : Bool × List DNode))) 0).bind fun r =>
 some (r.1, r.2)
else none
else none
else none
else none := Eq.trans (inf_call_eq (H := H) 15 a) (by kernel_rfl)
theorem laws_toSaid_eq (a : DSaid) : laws_toSaid a =
 some (a.1, a.2) := Eq.trans (inf_call_eq (H := H) 124 a) (by kernel_rfl)
theorem laws_toSaidS_L0_eq (a : Bool × List DSaid) (out : Bool × List DSaid) (i : Int) : laws_toSaidS_L0 a out i =
 bif decide (i < (a.2.length : Int)) then
 bif decide (0 ≤ i) then
 bif decide (i < (a.2.length : Int)) then
(laws_toSaid (a.2.getD (Int.toNat i) (0, 0))).bind fun r =>
 bif decide (0 ≤ i) then
 bif decide (i < (out.2.length : Int)) then
(laws_toSaidS_L0 a (out.1, (out.2.set (Int.toNat i) r)) (IntKind.i64.wrap (i + 1))).bind fun r => some r
else none
else none
else none
else none
else 
 some (out.1, out.2) := Eq.trans (inf_loop_eq (H := H) 62 0 (loopCode Tryz.f62 0) (a, (out, i)) key_laws_toSaidS) (by kernel_rfl)
theorem laws_toSaidS_eq (a : Bool × List DSaid) : laws_toSaidS a =
 bif decide (0 ≤ (a.2.length : Int)) then
 bif decide ((a.2.length : Int) ≤ lim) then
 bif decide ((a.2.length : Int) ≤ (a.2.length : Int)) then
 bif decide ((a.2.length : Int) ≤ lim) then
(laws_toSaidS_L0 a (false, (List.replicate (Int.toNat (a.2.length : Int)) ((0, 0) : DSaid))) 0).bind fun r =>
 some (r.1, r.2)
else none
else none
else none
else none := Eq.trans (inf_call_eq (H := H) 62 a) (by kernel_rfl)
theorem laws_toQuestion_eq (a : DQuestion) : laws_toQuestion a =
(laws_toProgram a.1).bind fun r =>
(laws_toNodeSS a.2.1).bind fun r1 =>
(laws_toSaidS a.2.2).bind fun r2 =>
 some (r.1, (r.2.1, ((r.2.2.1.1, r.2.2.1.2), ((r.2.2.2.1, r.2.2.2.2), ((r1.1, r1.2), (r2.1, r2.2)))))) := Eq.trans (inf_call_eq (H := H) 14 a) (by kernel_rfl)
theorem spec_l1In_eq (n : Int) (lo : Int) (hi : Int) : spec_l1In n lo hi =
 bif decide (n ≥ lo) then
 some (decide (n ≤ hi))
else 
 some false := Eq.trans (inf_call_eq (H := H) 116 (n, (lo, hi))) (by kernel_rfl)
theorem spec_l1Wide_eq (wide : Int) : spec_l1Wide wide =
(spec_l1In wide 1 64).bind fun r =>
 some r := Eq.trans (inf_call_eq (H := H) 272 wide) (by kernel_rfl)
theorem spec_l2Need_eq (op : Int) : spec_l2Need op =
 bif (op == 1) then
 some (0, (1, 1))
else 
 bif (op == 2) then
 some (0, (1, 1))
else 
 bif (op == 20) then
 some (0, (2, 2))
else 
 bif (op == 13) then
 some (1, (1, 1))
else 
 bif (op == 19) then
 some (1, (2, 2))
else 
(spec_l1In op 3 12).bind fun r =>
 bif r then
 some (2, (1, 1))
else 
(spec_l1In op 14 16).bind fun r1 =>
 bif r1 then
 some (2, (1, 2))
else 
 bif (op == 17) then
 some (2, (2, 2))
else 
 bif (op == 18) then
 some (2, (2, 2))
else 
 some (0, (0, 0)) := Eq.trans (inf_call_eq (H := H) 273 op) (by kernel_rfl)
theorem spec_l1Cut_L0_eq (wide : Int) (a : Int) (out : Int) (k_ : Int) : spec_l1Cut_L0 wide a out k_ =
 bif decide (k_ < wide) then
 bif decide ((IntKind.u64.wrap k_) < 0) then
 none
else 
(spec_l1Cut_L0 wide a (bOr .u64 out (bAnd .u64 a (bShl .u64 1 (IntKind.u64.wrap k_)))) (IntKind.i64.wrap (k_ + 1))).bind fun r => some r
else 
 some out := Eq.trans (inf_loop_eq (H := H) 307 0 (loopCode Tryz.f307 0) (wide, (a, (out, k_))) key_spec_l1Cut) (by kernel_rfl)
theorem spec_l1Cut_eq (wide : Int) (a : Int) : spec_l1Cut wide a =
(spec_l1Cut_L0 wide a 0 0).bind fun r =>
 some r := Eq.trans (inf_call_eq (H := H) 307 (wide, a)) (by kernel_rfl)
theorem spec_GoodWord_eq (wide : Int) (a : Int) : spec_GoodWord wide a =
(spec_l1Wide wide).bind fun r =>
 bif r then
(spec_l1Cut wide a).bind fun r1 =>
 some (r1 == a)
else 
 some false := Eq.trans (inf_call_eq (H := H) 330 (wide, a)) (by kernel_rfl)
theorem spec_l2N_eq (wide : Int) (vars : Int) (n : DNode) : spec_l2N wide vars n =
 bif (n.1 == 1) then
(spec_GoodWord wide n.2).bind fun r =>
 some r
else 
 bif (n.1 == 2) then
 some (decide (n.2 < (IntKind.u64.wrap vars)))
else 
 bif (n.1 == 20) then
 some (decide (n.2 < 2))
else 
 some (n.2 == 0) := Eq.trans (inf_call_eq (H := H) 274 (wide, (vars, n))) (by kernel_rfl)
theorem spec_l2Kind_L0_eq (wide : Int) (vars : Int) (pile : Bool × List Int) (t27 : Bool × List DNode) (t28 : Int) (t29 : Int) : spec_l2Kind_L0 wide vars pile t27 t28 t29 =
 bif decide (t29 < t28) then
 bif decide (0 ≤ t29) then
 bif decide (t29 < (t27.2.length : Int)) then
(spec_l2Need ((t27.2.getD (Int.toNat t29) (0, 0)).1)).bind fun r =>
 bif (r.2.2 == 0) then
 some (.inl 0)
else 
(spec_l2N wide vars (t27.2.getD (Int.toNat t29) (0, 0))).bind fun r1 =>
 bif !r1 then
 some (.inl 0)
else 
 bif decide ((pile.2.length : Int) < r.1) then
 some (.inl 0)
else 
(spec_l2Kind_L2 wide vars (pile.1, pile.2) r.1 r.2.1 r.2.2 t27 t28 t29).bind fun r2 =>
 match r2 with
| .inl y =>
 some (.inl y)
| .inr z =>
 bif decide (z.2.length + [r.2.2].length ≤ lim) then
(spec_l2Kind_L0 wide vars ((z.1 && false), (z.2 ++ [r.2.2])) t27 t28 (IntKind.i64.wrap (t29 + 1))).bind fun r => some r
else none
else none
else none
else 
 some (.inr (pile.1, pile.2)) := Eq.trans (inf_loop_eq (H := H) 203 0 (loopCode Tryz.f203 0) (wide, (vars, (pile, (t27, (t28, t29))))) key_spec_l2Kind) (by kernel_rfl)
theorem spec_l2Kind_L2_eq (wide : Int) (vars : Int) (pile : Bool × List Int) (many : Int) (part : Int) (own : Int) (t27 : Bool × List DNode) (t28 : Int) (t29 : Int) : spec_l2Kind_L2 wide vars pile many part own t27 t28 t29 =
 bif decide (many > 0) then
 bif decide (0 ≤ (IntKind.i64.wrap ((pile.2.length : Int) - 1))) then
 bif decide ((IntKind.i64.wrap ((pile.2.length : Int) - 1)) < (pile.2.length : Int)) then
 bif ((pile.2.getD (Int.toNat (IntKind.i64.wrap ((pile.2.length : Int) - 1))) 0) != part) then
 some (.inl 0)
else 
 bif decide (0 ≤ (IntKind.i64.wrap ((pile.2.length : Int) - 1))) then
 bif decide ((IntKind.i64.wrap ((pile.2.length : Int) - 1)) ≤ (pile.2.length : Int)) then
(spec_l2Kind_L2 wide vars (pile.1, ((pile.2.take (Int.toNat (IntKind.i64.wrap ((pile.2.length : Int) - 1)))).drop 0)) (IntKind.i64.wrap (many - 1)) part own t27 t28 t29).bind fun r => some r
else none
else none
else none
else none
else 
 some (.inr (pile.1, pile.2)) := Eq.trans (inf_loop_eq (H := H) 203 2 (loopCode Tryz.f203 2) (wide, (vars, (pile, (many, (part, (own, (t27, (t28, t29)))))))) key_spec_l2Kind) (by kernel_rfl)
theorem spec_l2Kind_eq (wide : Int) (vars : Int) (t : Bool × List DNode) : spec_l2Kind wide vars t =
(spec_l1Wide wide).bind fun r =>
 bif !r then
 some 0
else 
(spec_l1In vars 1 4).bind fun r1 =>
 bif !r1 then
 some 0
else 
(spec_l1In (t.2.length : Int) 1 48).bind fun r2 =>
 bif !r2 then
 some 0
else 
(spec_l2Kind_L0 wide vars (true, []) t (t.2.length : Int) 0).bind fun r3 =>
 match r3 with
| .inl y =>
 some y
| .inr z =>
 bif ((z.2.length : Int) != 1) then
 some 0
else 
 bif decide (0 < (z.2.length : Int)) then
 some (z.2.getD 0 0)
else none := Eq.trans (inf_call_eq (H := H) 203 (wide, (vars, t))) (by kernel_rfl)
theorem spec_l7Asks_eq (p : DProgram) (t : Bool × List DNode) : spec_l7Asks p t =
(spec_l2Kind p.1 p.2.1 t).bind fun r =>
 some (r == 2) := Eq.trans (inf_call_eq (H := H) 123 (p, t)) (by kernel_rfl)
theorem spec_l7Command_L0_eq (p : DProgram) (c : DCommand) (t21 : Bool × List DChange) (t22 : Int) (t23 : Int) : spec_l7Command_L0 p c t21 t22 t23 =
 bif decide (t23 < t22) then
 bif decide (0 ≤ t23) then
 bif decide (t23 < (t21.2.length : Int)) then
(spec_l1In ((t21.2.getD (Int.toNat t23) (0, (true, []))).1) 0 (IntKind.i64.wrap (p.2.1 - 1))).bind fun r =>
 bif !r then
 some (.inl false)
else 
 bif decide (t23 > 0) then
 bif decide (0 ≤ (IntKind.i64.wrap (t23 - 1))) then
 bif decide ((IntKind.i64.wrap (t23 - 1)) < (c.2.2.length : Int)) then
 bif decide (((c.2.2.getD (Int.toNat (IntKind.i64.wrap (t23 - 1))) (0, (true, []))).1) ≥ ((t21.2.getD (Int.toNat t23) (0, (true, []))).1)) then
 some (.inl false)
else 
(spec_l2Kind p.1 p.2.1 ((t21.2.getD (Int.toNat t23) (0, (true, []))).2)).bind fun r1 =>
 bif (r1 != 1) then
 some (.inl false)
else 
(spec_l7Command_L0 p c t21 t22 (IntKind.i64.wrap (t23 + 1))).bind fun r => some r
else none
else none
else 
(spec_l2Kind p.1 p.2.1 ((t21.2.getD (Int.toNat t23) (0, (true, []))).2)).bind fun r2 =>
 bif (r2 != 1) then
 some (.inl false)
else 
(spec_l7Command_L0 p c t21 t22 (IntKind.i64.wrap (t23 + 1))).bind fun r => some r
else none
else none
else 
 some (.inr ()) := Eq.trans (inf_loop_eq (H := H) 269 0 (loopCode Tryz.f269 0) (p, (c, (t21, (t22, t23)))) key_spec_l7Command) (by kernel_rfl)
theorem spec_l7Command_eq (p : DProgram) (c : DCommand) : spec_l7Command p c =
(spec_l7Asks p c.1).bind fun r =>
 bif !r then
 some false
else 
 bif decide ((c.2.2.length : Int) > p.2.1) then
 some false
else 
(spec_l7Command_L0 p c c.2 (c.2.2.length : Int) 0).bind fun r1 =>
 match r1 with
| .inl y =>
 some y
| .inr z =>
 some true := Eq.trans (inf_call_eq (H := H) 269 (p, c)) (by kernel_rfl)
theorem spec_GoodProgram_L0_eq (p : DProgram) (t18 : Bool × List DCommand) (t19 : Int) (t20 : Int) : spec_GoodProgram_L0 p t18 t19 t20 =
 bif decide (t20 < t19) then
 bif decide (0 ≤ t20) then
 bif decide (t20 < (t18.2.length : Int)) then
(spec_l7Command p (t18.2.getD (Int.toNat t20) ((true, []), (true, [])))).bind fun r =>
 bif !r then
 some (.inl false)
else 
(spec_GoodProgram_L0 p t18 t19 (IntKind.i64.wrap (t20 + 1))).bind fun r => some r
else none
else none
else 
 some (.inr ()) := Eq.trans (inf_loop_eq (H := H) 200 0 (loopCode Tryz.f200 0) (p, (t18, (t19, t20))) key_spec_GoodProgram) (by kernel_rfl)
theorem spec_GoodProgram_eq (p : DProgram) : spec_GoodProgram p =
(spec_l7Asks p p.2.2.1).bind fun r =>
 bif !r then
 some false
else 
(spec_l1In (p.2.2.2.2.length : Int) 1 6).bind fun r1 =>
 bif !r1 then
 some false
else 
(spec_GoodProgram_L0 p p.2.2.2 (p.2.2.2.2.length : Int) 0).bind fun r2 =>
 match r2 with
| .inl y =>
 some y
| .inr z =>
 some true := Eq.trans (inf_call_eq (H := H) 200 p) (by kernel_rfl)
theorem spec_l7Small_eq (p : DProgram) : spec_l7Small p =
(spec_GoodProgram p).bind fun r =>
 bif r then
 some (decide ((IntKind.i64.wrap (p.1 * p.2.1)) ≤ 5))
else 
 some false := Eq.trans (inf_call_eq (H := H) 121 p) (by kernel_rfl)
theorem spec_l10Need_eq (op : Int) : spec_l10Need op =
 bif (op == 1) then
 bif (op == 1) then
 some 0
else 
 bif (op == 3) then
 bif (op == 3) then
 some 1
else 
 bif (op == 5) then
 bif (op == 5) then
 some 2
else 
 some (-1)
else 
 bif (op == 6) then
 bif (op == 6) then
 some 2
else 
 some (-1)
else 
 bif (op == 7) then
 bif (op == 7) then
 some 2
else 
 some (-1)
else 
 bif (op == 8) then
 some 2
else 
 some (-1)
else 
 bif (op == 4) then
 some 1
else 
 bif (op == 5) then
 bif (op == 5) then
 some 2
else 
 some (-1)
else 
 bif (op == 6) then
 bif (op == 6) then
 some 2
else 
 some (-1)
else 
 bif (op == 7) then
 bif (op == 7) then
 some 2
else 
 some (-1)
else 
 bif (op == 8) then
 some 2
else 
 some (-1)
else 
 bif (op == 2) then
 some 0
else 
 bif (op == 3) then
 bif (op == 3) then
 some 1
else 
 bif (op == 5) then
 bif (op == 5) then
 some 2
else 
 some (-1)
else 
 bif (op == 6) then
 bif (op == 6) then
 some 2
else 
 some (-1)
else 
 bif (op == 7) then
 bif (op == 7) then
 some 2
else 
 some (-1)
else 
 bif (op == 8) then
 some 2
else 
 some (-1)
else 
 bif (op == 4) then
 some 1
else 
 bif (op == 5) then
 bif (op == 5) then
 some 2
else 
 some (-1)
else 
 bif (op == 6) then
 bif (op == 6) then
 some 2
else 
 some (-1)
else 
 bif (op == 7) then
 bif (op == 7) then
 some 2
else 
 some (-1)
else 
 bif (op == 8) then
 some 2
else 
 some (-1) := Eq.trans (inf_call_eq (H := H) 270 op) (by kernel_rfl)
theorem spec_l10N_eq (n : DSaid) : spec_l10N n =
 bif (n.1 == 1) then
(spec_l1In n.2 0 2).bind fun r =>
 some r
else 
 bif (n.1 == 2) then
(spec_l1In n.2 0 1).bind fun r1 =>
 some r1
else 
 some (n.2 == 0) := Eq.trans (inf_call_eq (H := H) 271 n) (by kernel_rfl)
theorem spec_GoodSaid_L0_eq (pile : Int) (t11 : Bool × List DSaid) (t12 : Int) (t13 : Int) : spec_GoodSaid_L0 pile t11 t12 t13 =
 bif decide (t13 < t12) then
 bif decide (0 ≤ t13) then
 bif decide (t13 < (t11.2.length : Int)) then
(spec_l10Need ((t11.2.getD (Int.toNat t13) (0, 0)).1)).bind fun r =>
 bif decide (r < 0) then
 some (.inl false)
else 
(spec_l10N (t11.2.getD (Int.toNat t13) (0, 0))).bind fun r1 =>
 bif !r1 then
 some (.inl false)
else 
 bif decide (pile < r) then
 some (.inl false)
else 
(spec_GoodSaid_L0 (IntKind.i64.wrap (pile + (IntKind.i64.wrap (1 - r)))) t11 t12 (IntKind.i64.wrap (t13 + 1))).bind fun r => some r
else none
else none
else 
 some (.inr pile) := Eq.trans (inf_loop_eq (H := H) 201 0 (loopCode Tryz.f201 0) (pile, (t11, (t12, t13))) key_spec_GoodSaid) (by kernel_rfl)
theorem spec_GoodSaid_eq (f : Bool × List DSaid) : spec_GoodSaid f =
(spec_l1In (f.2.length : Int) 1 16).bind fun r =>
 bif !r then
 some false
else 
(spec_GoodSaid_L0 0 f (f.2.length : Int) 0).bind fun r1 =>
 match r1 with
| .inl y =>
 some y
| .inr z =>
 some (z == 1) := Eq.trans (inf_call_eq (H := H) 201 f) (by kernel_rfl)
theorem spec_l1Put_L0_eq (l : Bool × List Int) (n : Int) (k_ : Int) : spec_l1Put_L0 l n k_ =
 bif decide (k_ < (l.2.length : Int)) then
 bif decide (0 ≤ k_) then
 bif decide (k_ < (l.2.length : Int)) then
 bif decide ((l.2.getD (Int.toNat k_) 0) < n) then
(spec_l1Put_L0 l n (IntKind.i64.wrap (k_ + 1))).bind fun r => some r
else 
 some k_
else none
else none
else 
 some k_ := Eq.trans (inf_loop_eq (H := H) 213 0 (loopCode Tryz.f213 0) (l, (n, k_)) key_spec_l1Put) (by kernel_rfl)
theorem spec_l1Put_eq (l : Bool × List Int) (n : Int) : spec_l1Put l n =
(spec_l1Put_L0 l n 0).bind fun r =>
 bif decide (r < (l.2.length : Int)) then
 bif decide (0 ≤ r) then
 bif decide (r < (l.2.length : Int)) then
 bif ((l.2.getD (Int.toNat r) 0) == n) then
 some l
else 
 bif decide (0 ≤ r) then
 bif decide (r ≤ (l.2.length : Int)) then
 bif decide (([] : List Int).length + ((l.2.take (Int.toNat r)).drop 0).length ≤ lim) then
 bif decide (([] ++ ((l.2.take (Int.toNat r)).drop 0)).length + [n].length ≤ lim) then
 bif decide (0 ≤ r) then
 bif decide (r ≤ (l.2.length : Int)) then
 bif decide ((([] ++ ((l.2.take (Int.toNat r)).drop 0)) ++ [n]).length + ((l.2.take l.2.length).drop (Int.toNat r)).length ≤ lim) then
 some (false, ((([] ++ ((l.2.take (Int.toNat r)).drop 0)) ++ [n]) ++ ((l.2.take l.2.length).drop (Int.toNat r))))
else none
else none
else none
else none
else none
else none
else none
else none
else none
else 
 bif decide (0 ≤ r) then
 bif decide (r ≤ (l.2.length : Int)) then
 bif decide (([] : List Int).length + ((l.2.take (Int.toNat r)).drop 0).length ≤ lim) then
 bif decide (([] ++ ((l.2.take (Int.toNat r)).drop 0)).length + [n].length ≤ lim) then
 bif decide (0 ≤ r) then
 bif decide (r ≤ (l.2.length : Int)) then
 bif decide ((([] ++ ((l.2.take (Int.toNat r)).drop 0)) ++ [n]).length + ((l.2.take l.2.length).drop (Int.toNat r)).length ≤ lim) then
 some (false, ((([] ++ ((l.2.take (Int.toNat r)).drop 0)) ++ [n]) ++ ((l.2.take l.2.length).drop (Int.toNat r))))
else none
else none
else none
else none
else none
else none
else none := Eq.trans (inf_call_eq (H := H) 213 (l, n)) (by kernel_rfl)
theorem spec_l13Tracked_L0_eq (out : Bool × List Int) (t10 : Bool × List DSaid) (t11 : Int) (t12 : Int) : spec_l13Tracked_L0 out t10 t11 t12 =
 bif decide (t12 < t11) then
 bif decide (0 ≤ t12) then
 bif decide (t12 < (t10.2.length : Int)) then
 bif (((t10.2.getD (Int.toNat t12) (0, 0)).1) == 7) then
 bif (((t10.2.getD (Int.toNat t12) (0, 0)).1) == 7) then
(spec_l1Put out t12).bind fun r =>
(spec_l1Put r (IntKind.i64.wrap (t12 - 1))).bind fun r1 =>
(spec_l13Tracked_L0 r1 t10 t11 (IntKind.i64.wrap (t12 + 1))).bind fun r => some r
else 
 bif (((t10.2.getD (Int.toNat t12) (0, 0)).1) == 4) then
(spec_l1Put out (IntKind.i64.wrap (t12 - 1))).bind fun r2 =>
(spec_l13Tracked_L0 r2 t10 t11 (IntKind.i64.wrap (t12 + 1))).bind fun r => some r
else 
(spec_l13Tracked_L0 out t10 t11 (IntKind.i64.wrap (t12 + 1))).bind fun r => some r
else 
 bif (((t10.2.getD (Int.toNat t12) (0, 0)).1) == 8) then
(spec_l1Put out t12).bind fun r3 =>
(spec_l1Put r3 (IntKind.i64.wrap (t12 - 1))).bind fun r4 =>
(spec_l13Tracked_L0 r4 t10 t11 (IntKind.i64.wrap (t12 + 1))).bind fun r => some r
else 
 bif (((t10.2.getD (Int.toNat t12) (0, 0)).1) == 4) then
(spec_l1Put out (IntKind.i64.wrap (t12 - 1))).bind fun r5 =>
(spec_l13Tracked_L0 r5 t10 t11 (IntKind.i64.wrap (t12 + 1))).bind fun r => some r
else 
(spec_l13Tracked_L0 out t10 t11 (IntKind.i64.wrap (t12 + 1))).bind fun r => some r
else none
else none
else 
 some out := Eq.trans (inf_loop_eq (H := H) 202 0 (loopCode Tryz.f202 0) (out, (t10, (t11, t12))) key_spec_l13Tracked) (by kernel_rfl)
theorem spec_l13Tracked_eq (f : Bool × List DSaid) : spec_l13Tracked f =
(spec_l13Tracked_L0 (false, [IntKind.i64.wrap ((f.2.length : Int) - 1)]) f (f.2.length : Int) 0).bind fun r =>
 some r := Eq.trans (inf_call_eq (H := H) 202 f) (by kernel_rfl)
theorem spec_l13Good_eq (f : Bool × List DSaid) : spec_l13Good f =
(spec_GoodSaid f).bind fun r =>
 bif r then
(spec_l13Tracked f).bind fun r1 =>
 some (decide ((r1.2.length : Int) ≤ 5))
else 
 some false := Eq.trans (inf_call_eq (H := H) 122 f) (by kernel_rfl)
theorem spec_GoodQuestion_L0_eq (q : DQuestion) (t22 : Bool × List (Bool × List DNode)) (t23 : Int) (t24 : Int) : spec_GoodQuestion_L0 q t22 t23 t24 =
 bif decide (t24 < t23) then
 bif decide (0 ≤ t24) then
 bif decide (t24 < (t22.2.length : Int)) then
(spec_l7Asks q.1 (t22.2.getD (Int.toNat t24) (true, []))).bind fun r =>
 bif !r then
 some (.inl false)
else 
(spec_GoodQuestion_L0 q t22 t23 (IntKind.i64.wrap (t24 + 1))).bind fun r => some r
else none
else none
else 
 some (.inr ()) := Eq.trans (inf_loop_eq (H := H) 59 0 (loopCode Tryz.f59 0) (q, (t22, (t23, t24))) key_spec_GoodQuestion) (by kernel_rfl)
theorem spec_GoodQuestion_eq (q : DQuestion) : spec_GoodQuestion q =
(spec_l7Small q.1).bind fun r =>
 bif !r then
 some false
else 
 bif ((q.2.1.2.length : Int) != 3) then
 some false
else 
(spec_l13Good q.2.2).bind fun r1 =>
 bif !r1 then
 some false
else 
(spec_GoodQuestion_L0 q q.2.1 (q.2.1.2.length : Int) 0).bind fun r2 =>
 match r2 with
| .inl y =>
 some y
| .inr z =>
 some true := Eq.trans (inf_call_eq (H := H) 59 q) (by kernel_rfl)
theorem spec_l15Preds_L0_eq (p : DProgram) (t10 : Bool × List (Bool × List DNode)) (t11 : Int) (t12 : Int) : spec_l15Preds_L0 p t10 t11 t12 =
 bif decide (t12 < t11) then
 bif decide (0 ≤ t12) then
 bif decide (t12 < (t10.2.length : Int)) then
(spec_l7Asks p (t10.2.getD (Int.toNat t12) (true, []))).bind fun r =>
 bif !r then
 some (.inl false)
else 
(spec_l15Preds_L0 p t10 t11 (IntKind.i64.wrap (t12 + 1))).bind fun r => some r
else none
else none
else 
 some (.inr ()) := Eq.trans (inf_loop_eq (H := H) 60 0 (loopCode Tryz.f60 0) (p, (t10, (t11, t12))) key_spec_l15Preds) (by kernel_rfl)
theorem spec_l15Preds_eq (p : DProgram) (preds : Bool × List (Bool × List DNode)) : spec_l15Preds p preds =
 bif decide ((preds.2.length : Int) > 8) then
 some false
else 
(spec_l15Preds_L0 p preds (preds.2.length : Int) 0).bind fun r =>
 match r with
| .inl y =>
 some y
| .inr z =>
 some true := Eq.trans (inf_call_eq (H := H) 60 (p, preds)) (by kernel_rfl)
theorem spec_l7Many_eq (p : DProgram) : spec_l7Many p =
 bif decide ((IntKind.u64.wrap (IntKind.i64.wrap (p.1 * p.2.1))) < 0) then
 none
else 
 some (bShl .i64 1 (IntKind.u64.wrap (IntKind.i64.wrap (p.1 * p.2.1)))) := Eq.trans (inf_call_eq (H := H) 159 p) (by kernel_rfl)
theorem spec_l7Of_L0_eq (no : Int) (p : DProgram) (out : Bool × List Int) (v : Int) : spec_l7Of_L0 no p out v =
 bif decide (v < p.2.1) then
 bif decide ((IntKind.u64.wrap (IntKind.i64.wrap (v * p.1))) < 0) then
 none
else 
 bif decide ((IntKind.u64.wrap p.1) < 0) then
 none
else 
 bif decide (out.2.length + [IntKind.u64.wrap (bAnd .i64 (bShr .i64 no (IntKind.u64.wrap (IntKind.i64.wrap (v * p.1)))) (IntKind.i64.wrap ((bShl .i64 1 (IntKind.u64.wrap p.1)) - 1)))].length ≤ lim) then
(spec_l7Of_L0 no p ((out.1 && false), (out.2 ++ [IntKind.u64.wrap (bAnd .i64 (bShr .i64 no (IntKind.u64.wrap (IntKind.i64.wrap (v * p.1)))) (IntKind.i64.wrap ((bShl .i64 1 (IntKind.u64.wrap p.1)) - 1)))])) (IntKind.i64.wrap (v + 1))).bind fun r => some r
else none
else 
 some (out.1, out.2) := Eq.trans (inf_loop_eq (H := H) 176 0 (loopCode Tryz.f176 0) (no, (p, (out, v))) key_spec_l7Of) (by kernel_rfl)
theorem spec_l7Of_eq (p : DProgram) (no : Int) : spec_l7Of p no =
(spec_l7Of_L0 no p (true, []) 0).bind fun r =>
 some (r.1, r.2) := Eq.trans (inf_call_eq (H := H) 176 (p, no)) (by kernel_rfl)
theorem spec_l2From_L0_eq (t : Bool × List DNode) (many : Int) (from_ : Int) : spec_l2From_L0 t many from_ =
 bif decide (many > 0) then
(spec_l2From t (IntKind.i64.wrap (from_ - 1))).bind fun r =>
(spec_l2From_L0 t (IntKind.i64.wrap (many - 1)) r).bind fun r => some r
else 
 some from_ := Eq.trans (inf_loop_eq (H := H) 309 0 (loopCode Tryz.f309 0) (t, (many, from_)) key_spec_l2From) (by kernel_rfl)
theorem spec_l2From_eq (t : Bool × List DNode) (k_ : Int) : spec_l2From t k_ =
 bif decide (0 ≤ k_) then
 bif decide (k_ < (t.2.length : Int)) then
(spec_l2Need ((t.2.getD (Int.toNat k_) (0, 0)).1)).bind fun r =>
(spec_l2From_L0 t r.1 k_).bind fun r1 =>
 some r1
else none
else none := Eq.trans (inf_call_eq (H := H) 309 (t, k_)) (by kernel_rfl)
theorem spec_l1Both_eq (wide : Int) (a : Int) (b : Int) : spec_l1Both wide a b =
(spec_GoodWord wide a).bind fun r =>
 bif r then
(spec_GoodWord wide b).bind fun r1 =>
 some r1
else 
 some false := Eq.trans (inf_call_eq (H := H) 369 (wide, (a, b))) (by kernel_rfl)
theorem spec_DivWord_eq (wide : Int) (a : Int) (b : Int) : spec_DivWord wide a b =
(spec_l1Both wide a b).bind fun r =>
 bif !r then
 some (0, (0, false))
else 
 bif (b == 0) then
(spec_l1Cut wide 18446744073709551615).bind fun r1 =>
 some (r1, (a, true))
else 
 bif (b == 0) then
 none
else 
 bif (b == 0) then
 none
else 
 some (IntKind.u64.wrap (Int.tdiv a b), (Int.tmod a b, true)) := Eq.trans (inf_call_eq (H := H) 343 (wide, (a, b))) (by kernel_rfl)
theorem spec_l1Shift_L0_eq (wide : Int) (a : Int) (by_ : Int) (left_ : Bool) : spec_l1Shift_L0 wide a by_ left_ =
 bif decide (by_ > 0) then
 bif left_ then
(spec_l1Cut wide (bShl .u64 a 1)).bind fun r =>
(spec_l1Shift_L0 wide r (IntKind.u64.wrap (by_ - 1)) left_).bind fun r => some r
else 
(spec_l1Shift_L0 wide (bShr .u64 a 1) (IntKind.u64.wrap (by_ - 1)) left_).bind fun r => some r
else 
 some a := Eq.trans (inf_loop_eq (H := H) 344 0 (loopCode Tryz.f344 0) (wide, (a, (by_, left_))) key_spec_l1Shift) (by kernel_rfl)
theorem spec_l1Shift_eq (wide : Int) (a : Int) (by_ : Int) (left_ : Bool) : spec_l1Shift wide a by_ left_ =
 bif decide (by_ ≥ (IntKind.u64.wrap wide)) then
 some 0
else 
(spec_l1Shift_L0 wide a by_ left_).bind fun r =>
 some r := Eq.trans (inf_call_eq (H := H) 344 (wide, (a, (by_, left_)))) (by kernel_rfl)
theorem spec_l2Bool_eq (is : Bool) : spec_l2Bool is =
 bif is then
 some 1
else 
 some 0 := Eq.trans (inf_call_eq (H := H) 345 is) (by kernel_rfl)
theorem spec_l1Signed_eq (wide : Int) (a : Int) : spec_l1Signed wide a =
 bif decide ((IntKind.u64.wrap (IntKind.i64.wrap (wide - 1))) < 0) then
 none
else 
 bif ((bAnd .u64 (bShr .u64 a (IntKind.u64.wrap (IntKind.i64.wrap (wide - 1)))) 1) == 1) then
(spec_l1Cut wide 18446744073709551615).bind fun r =>
 some (IntKind.i64.wrap (bOr .u64 a (bXor .u64 18446744073709551615 r)))
else 
 some (IntKind.i64.wrap a) := Eq.trans (inf_call_eq (H := H) 346 (wide, a)) (by kernel_rfl)
theorem spec_l2Do_eq (wide : Int) (op : Int) (a : Int) (b : Int) : spec_l2Do wide op a b =
(spec_DivWord wide a b).bind fun r =>
 bif (op == 3) then
(spec_l1Cut wide (IntKind.u64.wrap (a + b))).bind fun r1 =>
 some r1
else 
 bif (op == 4) then
(spec_l1Cut wide (IntKind.u64.wrap (a - b))).bind fun r2 =>
 some r2
else 
 bif (op == 5) then
(spec_l1Cut wide (IntKind.u64.wrap (a * b))).bind fun r3 =>
 some r3
else 
 bif (op == 6) then
 some r.1
else 
 bif (op == 7) then
 some r.2.1
else 
 bif (op == 8) then
 bif (op == 8) then
 some (bAnd .u64 a b)
else 
 bif (op == 9) then
 bif (op == 9) then
 some (bOr .u64 a b)
else 
 bif (op == 10) then
 some (bXor .u64 a b)
else 
 bif (op == 11) then
(spec_l1Shift wide a b true).bind fun r4 =>
 some r4
else 
 bif (op == 12) then
(spec_l1Shift wide a b false).bind fun r5 =>
 some r5
else 
 bif (op == 14) then
(spec_l2Bool (a == b)).bind fun r6 =>
 some r6
else 
 bif (op == 15) then
(spec_l2Bool (decide (a < b))).bind fun r7 =>
 some r7
else 
 bif (op == 16) then
(spec_l1Signed wide a).bind fun r8 =>
(spec_l1Signed wide b).bind fun r9 =>
(spec_l2Bool (decide (r8 < r9))).bind fun r10 =>
 some r10
else 
 some 0
else 
 bif (op == 18) then
 some (bOr .u64 a b)
else 
 bif (op == 10) then
 some (bXor .u64 a b)
else 
 bif (op == 11) then
(spec_l1Shift wide a b true).bind fun r11 =>
 some r11
else 
 bif (op == 12) then
(spec_l1Shift wide a b false).bind fun r12 =>
 some r12
else 
 bif (op == 14) then
(spec_l2Bool (a == b)).bind fun r13 =>
 some r13
else 
 bif (op == 15) then
(spec_l2Bool (decide (a < b))).bind fun r14 =>
 some r14
else 
 bif (op == 16) then
(spec_l1Signed wide a).bind fun r15 =>
(spec_l1Signed wide b).bind fun r16 =>
(spec_l2Bool (decide (r15 < r16))).bind fun r17 =>
 some r17
else 
 some 0
else 
 bif (op == 17) then
 some (bAnd .u64 a b)
else 
 bif (op == 9) then
 bif (op == 9) then
 some (bOr .u64 a b)
else 
 bif (op == 10) then
 some (bXor .u64 a b)
else 
 bif (op == 11) then
(spec_l1Shift wide a b true).bind fun r18 =>
 some r18
else 
 bif (op == 12) then
(spec_l1Shift wide a b false).bind fun r19 =>
 some r19
else 
 bif (op == 14) then
(spec_l2Bool (a == b)).bind fun r20 =>
 some r20
else 
 bif (op == 15) then
(spec_l2Bool (decide (a < b))).bind fun r21 =>
 some r21
else 
 bif (op == 16) then
(spec_l1Signed wide a).bind fun r22 =>
(spec_l1Signed wide b).bind fun r23 =>
(spec_l2Bool (decide (r22 < r23))).bind fun r24 =>
 some r24
else 
 some 0
else 
 bif (op == 18) then
 some (bOr .u64 a b)
else 
 bif (op == 10) then
 some (bXor .u64 a b)
else 
 bif (op == 11) then
(spec_l1Shift wide a b true).bind fun r25 =>
 some r25
else 
 bif (op == 12) then
(spec_l1Shift wide a b false).bind fun r26 =>
 some r26
else 
 bif (op == 14) then
(spec_l2Bool (a == b)).bind fun r27 =>
 some r27
else 
 bif (op == 15) then
(spec_l2Bool (decide (a < b))).bind fun r28 =>
 some r28
else 
 bif (op == 16) then
(spec_l1Signed wide a).bind fun r29 =>
(spec_l1Signed wide b).bind fun r30 =>
(spec_l2Bool (decide (r29 < r30))).bind fun r31 =>
 some r31
else 
 some 0 := Eq.trans (inf_call_eq (H := H) 308 (wide, (op, (a, b)))) (by kernel_rfl)
theorem spec_l2Value_eq (wide : Int) (t : Bool × List DNode) (k_ : Int) (state : Bool × List Int) : spec_l2Value wide t k_ state =
 bif decide (0 ≤ k_) then
 bif decide (k_ < (t.2.length : Int)) then
(spec_l2Need ((t.2.getD (Int.toNat k_) (0, 0)).1)).bind fun r =>
 bif (((t.2.getD (Int.toNat k_) (0, 0)).1) == 2) then
 bif decide (0 ≤ ((t.2.getD (Int.toNat k_) (0, 0)).2)) then
 bif decide (((t.2.getD (Int.toNat k_) (0, 0)).2) < (state.2.length : Int)) then
 some (state.2.getD (Int.toNat ((t.2.getD (Int.toNat k_) (0, 0)).2)) 0)
else none
else none
else 
 bif (r.1 == 0) then
 some ((t.2.getD (Int.toNat k_) (0, 0)).2)
else 
 bif (((t.2.getD (Int.toNat k_) (0, 0)).1) == 13) then
(spec_l2Value wide t (IntKind.i64.wrap (k_ - 1)) state).bind fun r1 =>
(spec_l1Cut wide (bXor .u64 18446744073709551615 r1)).bind fun r2 =>
 some r2
else 
 bif (((t.2.getD (Int.toNat k_) (0, 0)).1) == 19) then
(spec_l2Value wide t (IntKind.i64.wrap (k_ - 1)) state).bind fun r3 =>
 some (IntKind.u64.wrap (1 - r3))
else 
(spec_l2From t (IntKind.i64.wrap (k_ - 1))).bind fun r4 =>
(spec_l2Value wide t (IntKind.i64.wrap (r4 - 1)) state).bind fun r5 =>
(spec_l2Value wide t (IntKind.i64.wrap (k_ - 1)) state).bind fun r6 =>
(spec_l2Do wide ((t.2.getD (Int.toNat k_) (0, 0)).1) r5 r6).bind fun r7 =>
 some r7
else none
else none := Eq.trans (inf_call_eq (H := H) 240 (wide, (t, (k_, state)))) (by kernel_rfl)
theorem spec_l7Holds_eq (p : DProgram) (t : Bool × List DNode) (s : Bool × List Int) : spec_l7Holds p t s =
(spec_l2Value p.1 t (IntKind.i64.wrap ((t.2.length : Int) - 1)) s).bind fun r =>
 some (r == 1) := Eq.trans (inf_call_eq (H := H) 175 (p, (t, s))) (by kernel_rfl)
theorem spec_l8Those_L0_eq (t : Bool × List DNode) (p : DProgram) (out : Bool × List Int) (no : Int) : spec_l8Those_L0 t p out no =
(spec_l7Many p).bind fun r =>
 bif decide (no < r) then
(spec_l7Of p no).bind fun r1 =>
(spec_l7Holds p t (r1.1, r1.2)).bind fun r2 =>
 bif r2 then
 bif decide (out.2.length + [no].length ≤ lim) then
(spec_l8Those_L0 t p ((out.1 && false), (out.2 ++ [no])) (IntKind.i64.wrap (no + 1))).bind fun r => some r
else none
else 
(spec_l8Those_L0 t p (out.1, out.2) (IntKind.i64.wrap (no + 1))).bind fun r => some r
else 
 some (out.1, out.2) := Eq.trans (inf_loop_eq (H := H) 99 0 (loopCode Tryz.f99 0) (t, (p, (out, no))) key_spec_l8Those) (by kernel_rfl)
theorem spec_l8Those_eq (p : DProgram) (t : Bool × List DNode) : spec_l8Those p t =
(spec_l8Those_L0 t p (true, []) 0).bind fun r =>
 some (r.1, r.2) := Eq.trans (inf_call_eq (H := H) 99 (p, t)) (by kernel_rfl)
theorem spec_l1Has_L0_eq (n : Int) (t7 : Bool × List Int) (t8 : Int) (t9 : Int) : spec_l1Has_L0 n t7 t8 t9 =
 bif decide (t9 < t8) then
 bif decide (0 ≤ t9) then
 bif decide (t9 < (t7.2.length : Int)) then
 bif ((t7.2.getD (Int.toNat t9) 0) == n) then
 some (.inl true)
else 
(spec_l1Has_L0 n t7 t8 (IntKind.i64.wrap (t9 + 1))).bind fun r => some r
else none
else none
else 
 some (.inr ()) := Eq.trans (inf_loop_eq (H := H) 98 0 (loopCode Tryz.f98 0) (n, (t7, (t8, t9))) key_spec_l1Has) (by kernel_rfl)
theorem spec_l1Has_eq (l : Bool × List Int) (n : Int) : spec_l1Has l n =
(spec_l1Has_L0 n l (l.2.length : Int) 0).bind fun r =>
 match r with
| .inl y =>
 some y
| .inr z =>
 some false := Eq.trans (inf_call_eq (H := H) 98 (l, n)) (by kernel_rfl)
theorem spec_l15Of_L0_eq (keys : Bool × List Int) (t2 : DSight) (out : Bool × List Int) (many : Int) (t9 : Bool × List Int) (t10 : Int) (t11 : Int) : spec_l15Of_L0 keys t2 out many t9 t10 t11 =
 bif decide (t11 < t10) then
 bif decide (0 ≤ t11) then
 bif decide (t11 < (t9.2.length : Int)) then
(spec_l15Of_L2 keys t2 (out.1, out.2) many t11 (t9.2.getD (Int.toNat t11) 0) many 0 t9 t10 t11).bind fun r =>
 bif (r == many) then
 bif decide (out.2.length + [r].length ≤ lim) then
(spec_l15Of_L0 keys t2 ((out.1 && false), (out.2 ++ [r])) (IntKind.i64.wrap (many + 1)) t9 t10 (IntKind.i64.wrap (t11 + 1))).bind fun r => some r
else none
else 
 bif decide (out.2.length + [r].length ≤ lim) then
(spec_l15Of_L0 keys t2 ((out.1 && false), (out.2 ++ [r])) many t9 t10 (IntKind.i64.wrap (t11 + 1))).bind fun r => some r
else none
else none
else none
else 
 some (out.1, out.2) := Eq.trans (inf_loop_eq (H := H) 198 0 (loopCode Tryz.f198 0) (keys, (t2, (out, (many, (t9, (t10, t11)))))) key_spec_l15Of) (by kernel_rfl)
theorem spec_l15Of_L2_eq (keys : Bool × List Int) (t2 : DSight) (out : DSight) (many : Int) (i : Int) (key : Int) (class_ : Int) (j : Int) (t9 : Bool × List Int) (t10 : Int) (t11 : Int) : spec_l15Of_L2 keys t2 out many i key class_ j t9 t10 t11 =
 bif decide (j < i) then
 bif decide (0 ≤ j) then
 bif decide (j < (keys.2.length : Int)) then
 bif ((keys.2.getD (Int.toNat j) 0) == key) then
 bif decide (0 ≤ j) then
 bif decide (j < (out.2.length : Int)) then
 some (out.2.getD (Int.toNat j) 0)
else none
else none
else 
(spec_l15Of_L2 keys t2 out many i key class_ (IntKind.i64.wrap (j + 1)) t9 t10 t11).bind fun r => some r
else none
else none
else 
 some class_ := Eq.trans (inf_loop_eq (H := H) 198 2 (loopCode Tryz.f198 2) (keys, (t2, (out, (many, (i, (key, (class_, (j, (t9, (t10, t11)))))))))) key_spec_l15Of) (by kernel_rfl)
theorem spec_l15Of_eq (keys : Bool × List Int) : spec_l15Of keys =
(spec_l15Of_L0 keys (true, []) (true, []) 0 keys (keys.2.length : Int) 0).bind fun r =>
 some (r.1, r.2) := Eq.trans (inf_call_eq (H := H) 198 keys) (by kernel_rfl)
theorem spec_l15Cut_L0_eq (some_ : Bool × List Int) (t4 : DSight) (keys : Bool × List Int) (t9 : Bool × List Int) (t10 : Int) (t11 : Int) : spec_l15Cut_L0 some_ t4 keys t9 t10 t11 =
 bif decide (t11 < t10) then
 bif decide (0 ≤ t11) then
 bif decide (t11 < (t9.2.length : Int)) then
(spec_l1Has some_ t11).bind fun r =>
 bif r then
 bif decide (keys.2.length + [IntKind.i64.wrap ((IntKind.i64.wrap (2 * (t9.2.getD (Int.toNat t11) 0))) + 1)].length ≤ lim) then
(spec_l15Cut_L0 some_ t4 ((keys.1 && false), (keys.2 ++ [IntKind.i64.wrap ((IntKind.i64.wrap (2 * (t9.2.getD (Int.toNat t11) 0))) + 1)])) t9 t10 (IntKind.i64.wrap (t11 + 1))).bind fun r => some r
else none
else 
 bif decide (keys.2.length + [IntKind.i64.wrap (2 * (t9.2.getD (Int.toNat t11) 0))].length ≤ lim) then
(spec_l15Cut_L0 some_ t4 ((keys.1 && false), (keys.2 ++ [IntKind.i64.wrap (2 * (t9.2.getD (Int.toNat t11) 0))])) t9 t10 (IntKind.i64.wrap (t11 + 1))).bind fun r => some r
else none
else none
else none
else 
 some (keys.1, keys.2) := Eq.trans (inf_loop_eq (H := H) 118 0 (loopCode Tryz.f118 0) (some_, (t4, (keys, (t9, (t10, t11))))) key_spec_l15Cut) (by kernel_rfl)
theorem spec_l15Cut_eq (v : DSight) (some_ : Bool × List Int) : spec_l15Cut v some_ =
(spec_l15Cut_L0 some_ (true, []) (true, []) v (v.2.length : Int) 0).bind fun r =>
(spec_l15Of (r.1, r.2)).bind fun r1 =>
 some (r1.1, r1.2) := Eq.trans (inf_call_eq (H := H) 118 (v, some_)) (by kernel_rfl)
theorem spec_l15Split_eq (p : DProgram) (v : DSight) (t : Bool × List DNode) : spec_l15Split p v t =
(spec_l8Those p t).bind fun r =>
(spec_l15Cut v (r.1, r.2)).bind fun r1 =>
 some (r1.1, r1.2) := Eq.trans (inf_call_eq (H := H) 85 (p, (v, t))) (by kernel_rfl)
theorem spec_l15By_L0_eq (p : DProgram) (t4 : DSight) (v : Bool × List Int) (t12 : Bool × List (Bool × List DNode)) (t13 : Int) (t14 : Int) : spec_l15By_L0 p t4 v t12 t13 t14 =
 bif decide (t14 < t13) then
 bif decide (0 ≤ t14) then
 bif decide (t14 < (t12.2.length : Int)) then
(spec_l15Split p (v.1, v.2) (t12.2.getD (Int.toNat t14) (true, []))).bind fun r =>
(spec_l15By_L0 p t4 (r.1, r.2) t12 t13 (IntKind.i64.wrap (t14 + 1))).bind fun r => some r
else none
else none
else 
 some (v.1, v.2) := Eq.trans (inf_loop_eq (H := H) 86 0 (loopCode Tryz.f86 0) (p, (t4, (v, (t12, (t13, t14))))) key_spec_l15By) (by kernel_rfl)
theorem spec_l15By_eq (p : DProgram) (preds : Bool × List (Bool × List DNode)) : spec_l15By p preds =
(spec_l7Many p).bind fun r =>
 bif decide (0 ≤ r) then
 bif decide (r ≤ lim) then
 bif decide (r ≤ r) then
 bif decide (r ≤ lim) then
(spec_l15By_L0 p (true, []) (false, (List.replicate (Int.toNat r) (0 : Int))) preds (preds.2.length : Int) 0).bind fun r1 =>
 some (r1.1, r1.2)
else none
else none
else none
else none := Eq.trans (inf_call_eq (H := H) 86 (p, preds)) (by kernel_rfl)
theorem spec_l22For_L0_eq (q : DQuestion) (t4 : DSight) (v : Bool × List Int) (t13 : Bool × List (Bool × List DNode)) (t14 : Int) (t15 : Int) : spec_l22For_L0 q t4 v t13 t14 t15 =
 bif decide (t15 < t14) then
 bif decide (0 ≤ t15) then
 bif decide (t15 < (t13.2.length : Int)) then
(spec_l15Split q.1 (v.1, v.2) (t13.2.getD (Int.toNat t15) (true, []))).bind fun r =>
(spec_l22For_L0 q t4 (r.1, r.2) t13 t14 (IntKind.i64.wrap (t15 + 1))).bind fun r => some r
else none
else none
else 
 some (v.1, v.2) := Eq.trans (inf_loop_eq (H := H) 61 0 (loopCode Tryz.f61 0) (q, (t4, (v, (t13, (t14, t15))))) key_spec_l22For) (by kernel_rfl)
theorem spec_l22For_eq (q : DQuestion) (preds : Bool × List (Bool × List DNode)) : spec_l22For q preds =
(spec_l15By q.1 q.2.1).bind fun r =>
(spec_l22For_L0 q (true, []) (r.1, r.2) preds (preds.2.length : Int) 0).bind fun r1 =>
 some (r1.1, r1.2) := Eq.trans (inf_call_eq (H := H) 61 (q, preds)) (by kernel_rfl)
theorem spec_SightFor_eq (q : DQuestion) (preds : Bool × List (Bool × List DNode)) : spec_SightFor q preds =
(spec_GoodQuestion q).bind fun r =>
 bif !r then
 some ((true, []), false)
else 
(spec_l15Preds q.1 preds).bind fun r1 =>
 bif !r1 then
 some ((true, []), false)
else 
(spec_l22For q preds).bind fun r2 =>
 some ((r2.1, r2.2), true) := Eq.trans (inf_call_eq (H := H) 13 (q, preds)) (by kernel_rfl)
theorem impl_isWide_eq (n : Int) : impl_isWide n =
 bif decide (n ≥ 1) then
 some (decide (n ≤ 64))
else 
 some false := Eq.trans (inf_call_eq (H := H) 275 n) (by kernel_rfl)
theorem impl_isVars_eq (n : Int) : impl_isVars n =
 bif decide (n ≥ 1) then
 some (decide (n ≤ 4))
else 
 some false := Eq.trans (inf_call_eq (H := H) 276 n) (by kernel_rfl)
theorem impl_operandsOf_eq (op : Int) : impl_operandsOf op =
 bif (op == 1) then
 some (0, (0, 1))
else 
 bif (op == 2) then
 some (0, (0, 1))
else 
 bif (op == 20) then
 some (0, (0, 2))
else 
 bif (op == 13) then
 some (1, (1, 1))
else 
 bif (op == 19) then
 some (1, (2, 2))
else 
 bif decide (op ≥ 3) then
 bif decide (op ≤ 12) then
 some (2, (1, 1))
else 
 bif decide (op ≥ 14) then
 bif decide (op ≤ 16) then
 some (2, (1, 2))
else 
 bif (op == 17) then
 some (2, (2, 2))
else 
 bif (op == 18) then
 some (2, (2, 2))
else 
 some (0, (0, 0))
else 
 bif (op == 17) then
 some (2, (2, 2))
else 
 bif (op == 18) then
 some (2, (2, 2))
else 
 some (0, (0, 0))
else 
 bif decide (op ≥ 14) then
 bif decide (op ≤ 16) then
 some (2, (1, 2))
else 
 bif (op == 17) then
 some (2, (2, 2))
else 
 bif (op == 18) then
 some (2, (2, 2))
else 
 some (0, (0, 0))
else 
 bif (op == 17) then
 some (2, (2, 2))
else 
 bif (op == 18) then
 some (2, (2, 2))
else 
 some (0, (0, 0)) := Eq.trans (inf_call_eq (H := H) 334 op) (by kernel_rfl)
theorem impl_mask_eq (wide : Int) : impl_mask wide =
 bif decide ((IntKind.i64.wrap (64 - wide)) < 0) then
 none
else 
 some (bShr .u64 18446744073709551615 (IntKind.i64.wrap (64 - wide))) := Eq.trans (inf_call_eq (H := H) 183 wide) (by kernel_rfl)
theorem impl_GoodWord_eq (wide : Int) (a : Int) : impl_GoodWord wide a =
(impl_isWide wide).bind fun r =>
 bif r then
(impl_mask wide).bind fun r1 =>
 some (decide (a ≤ r1))
else 
 some false := Eq.trans (inf_call_eq (H := H) 364 (wide, a)) (by kernel_rfl)
theorem impl_isLeafRight_eq (wide : Int) (vars : Int) (x : DNode) : impl_isLeafRight wide vars x =
 bif (x.1 == 1) then
(impl_GoodWord wide x.2).bind fun r =>
 some r
else 
 bif (x.1 == 2) then
 some (decide (x.2 < (IntKind.u64.wrap vars)))
else 
 bif (x.1 == 20) then
 some (decide (x.2 ≤ 1))
else 
 some (x.2 == 0) := Eq.trans (inf_call_eq (H := H) 335 (wide, (vars, x))) (by kernel_rfl)
theorem impl_GoodTerm_1_eq (own : Int) (a1 : Int) : impl_GoodTerm_1 own a1 =
 some (own != a1) := Eq.trans (inf_call_eq (H := H) 336 (own, a1)) (by kernel_rfl)
theorem slices_IndexFunc_int_by_GoodTerm_1_L0_eq (s : Bool × List Int) (f : Int × Unit) (t7 : Int) (t8 : Int) : slices_IndexFunc_int_by_GoodTerm_1_L0 s f t7 t8 =
 bif decide (t8 < t7) then
 bif decide (0 ≤ t8) then
 bif decide (t8 < (s.2.length : Int)) then
(impl_GoodTerm_1 (s.2.getD (Int.toNat t8) 0) f.1).bind fun r =>
 bif r then
 some (.inl t8)
else 
(slices_IndexFunc_int_by_GoodTerm_1_L0 s f t7 (IntKind.i64.wrap (t8 + 1))).bind fun r => some r
else none
else none
else 
 some (.inr ()) := Eq.trans (inf_loop_eq (H := H) 152 0 (loopCode Tryz.f152 0) (s, (f, (t7, t8))) key_slices_IndexFunc_int_by_GoodTerm_1) (by kernel_rfl)
theorem slices_IndexFunc_int_by_GoodTerm_1_eq (s : Bool × List Int) (f : Int × Unit) : slices_IndexFunc_int_by_GoodTerm_1 s f =
(slices_IndexFunc_int_by_GoodTerm_1_L0 s f (s.2.length : Int) 0).bind fun r =>
 match r with
| .inl y =>
 some y
| .inr z =>
 some (-1) := Eq.trans (inf_call_eq (H := H) 152 (s, f)) (by kernel_rfl)
theorem slices_ContainsFunc_int_by_GoodTerm_1_eq (s : Bool × List Int) (f : Int × Unit) : slices_ContainsFunc_int_by_GoodTerm_1 s f =
(slices_IndexFunc_int_by_GoodTerm_1 s f).bind fun r =>
 some (decide (r ≥ 0)) := Eq.trans (inf_call_eq (H := H) 144 (s, f)) (by kernel_rfl)
theorem impl_GoodTerm_L0_eq (wide : Int) (vars : Int) (stack : Bool × List Int) (t33 : Bool × List DNode) (t34 : Int) (t35 : Int) : impl_GoodTerm_L0 wide vars stack t33 t34 t35 =
 bif decide (t35 < t34) then
 bif decide (0 ≤ t35) then
 bif decide (t35 < (t33.2.length : Int)) then
(impl_operandsOf ((t33.2.getD (Int.toNat t35) (0, 0)).1)).bind fun r =>
 bif (r.2.2 == 0) then
 some (.inl false)
else 
(impl_isLeafRight wide vars (t33.2.getD (Int.toNat t35) (0, 0))).bind fun r1 =>
 bif !r1 then
 some (.inl false)
else 
 bif decide ((IntKind.i64.wrap ((stack.2.length : Int) - r.1)) < 0) then
 some (.inl false)
else 
 bif decide (0 ≤ (IntKind.i64.wrap ((stack.2.length : Int) - r.1))) then
 bif decide ((IntKind.i64.wrap ((stack.2.length : Int) - r.1)) ≤ (stack.2.length : Int)) then
(slices_ContainsFunc_int_by_GoodTerm_1 (stack.1, ((stack.2.take stack.2.length).drop (Int.toNat (IntKind.i64.wrap ((stack.2.length : Int) - r.1))))) (r.2.1, ())).bind fun r2 =>
 bif r2 then
 some (.inl false)
else 
 bif decide (0 ≤ (IntKind.i64.wrap ((stack.2.length : Int) - r.1))) then
 bif decide ((IntKind.i64.wrap ((stack.2.length : Int) - r.1)) ≤ (stack.2.length : Int)) then
 bif decide (((stack.2.take (Int.toNat (IntKind.i64.wrap ((stack.2.length : Int) - r.1)))).drop 0).length + [r.2.2].length ≤ lim) then
(impl_GoodTerm_L0 wide vars ((stack.1 && false), (((stack.2.take (Int.toNat (IntKind.i64.wrap ((stack.2.length : Int) - r.1)))).drop 0) ++ [r.2.2])) t33 t34 (IntKind.i64.wrap (t35 + 1))).bind fun r => some r
else none
else none
else none
else none
else none
else none
else none
else 
 some (.inr (stack.1, stack.2)) := Eq.trans (inf_loop_eq (H := H) 284 0 (loopCode Tryz.f284 0) (wide, (vars, (stack, (t33, (t34, t35))))) key_impl_GoodTerm) (by kernel_rfl)
theorem impl_GoodTerm_eq (wide : Int) (vars : Int) (t : Bool × List DNode) : impl_GoodTerm wide vars t =
(impl_isWide wide).bind fun r =>
 bif !r then
 some false
else 
(impl_isVars vars).bind fun r1 =>
 bif !r1 then
 some false
else 
 bif decide ((t.2.length : Int) < 1) then
 some false
else 
 bif decide ((t.2.length : Int) > 48) then
 some false
else 
(impl_GoodTerm_L0 wide vars (false, []) t (t.2.length : Int) 0).bind fun r2 =>
 match r2 with
| .inl y =>
 some y
| .inr z =>
 some ((z.2.length : Int) == 1) := Eq.trans (inf_call_eq (H := H) 284 (wide, (vars, t))) (by kernel_rfl)
theorem impl_kindOf_eq (t : Bool × List DNode) : impl_kindOf t =
 bif decide (0 ≤ (IntKind.i64.wrap ((t.2.length : Int) - 1))) then
 bif decide ((IntKind.i64.wrap ((t.2.length : Int) - 1)) < (t.2.length : Int)) then
(impl_operandsOf ((t.2.getD (Int.toNat (IntKind.i64.wrap ((t.2.length : Int) - 1))) (0, 0)).1)).bind fun r =>
 some r.2.2
else none
else none := Eq.trans (inf_call_eq (H := H) 285 t) (by kernel_rfl)
theorem impl_isTermOf_eq (wide : Int) (vars : Int) (t : Bool × List DNode) (kind : Int) : impl_isTermOf wide vars t kind =
(impl_GoodTerm wide vars t).bind fun r =>
 bif r then
(impl_kindOf t).bind fun r1 =>
 some (r1 == kind)
else 
 some false := Eq.trans (inf_call_eq (H := H) 208 (wide, (vars, (t, kind)))) (by kernel_rfl)
theorem impl_Program_isCondition_eq (p : DProgram) (t : Bool × List DNode) : impl_Program_isCondition p t =
(impl_isTermOf p.1 p.2.1 t 2).bind fun r =>
 some r := Eq.trans (inf_call_eq (H := H) 129 (p, t)) (by kernel_rfl)
theorem impl_Program_isCommand_L0_eq (p : DProgram) (c : DCommand) (t13 : Bool × List DChange) (t14 : Int) (t15 : Int) : impl_Program_isCommand_L0 p c t13 t14 t15 =
 bif decide (t15 < t14) then
 bif decide (0 ≤ t15) then
 bif decide (t15 < (t13.2.length : Int)) then
 bif decide (((t13.2.getD (Int.toNat t15) (0, (true, []))).1) < 0) then
 some (.inl false)
else 
 bif decide (((t13.2.getD (Int.toNat t15) (0, (true, []))).1) ≥ p.2.1) then
 some (.inl false)
else 
 bif decide (t15 > 0) then
 bif decide (0 ≤ (IntKind.i64.wrap (t15 - 1))) then
 bif decide ((IntKind.i64.wrap (t15 - 1)) < (c.2.2.length : Int)) then
 bif decide (((c.2.2.getD (Int.toNat (IntKind.i64.wrap (t15 - 1))) (0, (true, []))).1) ≥ ((t13.2.getD (Int.toNat t15) (0, (true, []))).1)) then
 some (.inl false)
else 
(impl_isTermOf p.1 p.2.1 ((t13.2.getD (Int.toNat t15) (0, (true, []))).2) 1).bind fun r =>
 bif !r then
 some (.inl false)
else 
(impl_Program_isCommand_L0 p c t13 t14 (IntKind.i64.wrap (t15 + 1))).bind fun r => some r
else none
else none
else 
(impl_isTermOf p.1 p.2.1 ((t13.2.getD (Int.toNat t15) (0, (true, []))).2) 1).bind fun r1 =>
 bif !r1 then
 some (.inl false)
else 
(impl_Program_isCommand_L0 p c t13 t14 (IntKind.i64.wrap (t15 + 1))).bind fun r => some r
else none
else none
else 
 some (.inr ()) := Eq.trans (inf_loop_eq (H := H) 279 0 (loopCode Tryz.f279 0) (p, (c, (t13, (t14, t15)))) key_impl_Program_isCommand) (by kernel_rfl)
theorem impl_Program_isCommand_eq (p : DProgram) (c : DCommand) : impl_Program_isCommand p c =
(impl_Program_isCondition p c.1).bind fun r =>
 bif !r then
 some false
else 
(impl_Program_isCommand_L0 p c c.2 (c.2.2.length : Int) 0).bind fun r1 =>
 match r1 with
| .inl y =>
 some y
| .inr z =>
 some true := Eq.trans (inf_call_eq (H := H) 279 (p, c)) (by kernel_rfl)
theorem impl_GoodProgram_1_eq (c : DCommand) (a1 : DProgram) : impl_GoodProgram_1 c a1 =
(impl_Program_isCommand a1 c).bind fun r =>
 some (!r) := Eq.trans (inf_call_eq (H := H) 278 (c, a1)) (by kernel_rfl)
theorem slices_IndexFunc_Command_by_GoodProgram_1_L0_eq (s : Bool × List DCommand) (f : DProgram × Unit) (t7 : Int) (t8 : Int) : slices_IndexFunc_Command_by_GoodProgram_1_L0 s f t7 t8 =
 bif decide (t8 < t7) then
 bif decide (0 ≤ t8) then
 bif decide (t8 < (s.2.length : Int)) then
(impl_GoodProgram_1 (s.2.getD (Int.toNat t8) ((true, []), (true, []))) f.1).bind fun r =>
 bif r then
 some (.inl t8)
else 
(slices_IndexFunc_Command_by_GoodProgram_1_L0 s f t7 (IntKind.i64.wrap (t8 + 1))).bind fun r => some r
else none
else none
else 
 some (.inr ()) := Eq.trans (inf_loop_eq (H := H) 331 0 (loopCode Tryz.f331 0) (s, (f, (t7, t8))) key_slices_IndexFunc_Command_by_GoodProgram_1) (by kernel_rfl)
theorem slices_IndexFunc_Command_by_GoodProgram_1_eq (s : Bool × List DCommand) (f : DProgram × Unit) : slices_IndexFunc_Command_by_GoodProgram_1 s f =
(slices_IndexFunc_Command_by_GoodProgram_1_L0 s f (s.2.length : Int) 0).bind fun r =>
 match r with
| .inl y =>
 some y
| .inr z =>
 some (-1) := Eq.trans (inf_call_eq (H := H) 331 (s, f)) (by kernel_rfl)
theorem slices_ContainsFunc_Command_by_GoodProgram_1_eq (s : Bool × List DCommand) (f : DProgram × Unit) : slices_ContainsFunc_Command_by_GoodProgram_1 s f =
(slices_IndexFunc_Command_by_GoodProgram_1 s f).bind fun r =>
 some (decide (r ≥ 0)) := Eq.trans (inf_call_eq (H := H) 277 (s, f)) (by kernel_rfl)
theorem impl_GoodProgram_eq (p : DProgram) : impl_GoodProgram p =
(impl_isWide p.1).bind fun r =>
 bif !r then
 some false
else 
(impl_isVars p.2.1).bind fun r1 =>
 bif !r1 then
 some false
else 
(impl_Program_isCondition p p.2.2.1).bind fun r2 =>
 bif !r2 then
 some false
else 
 bif decide ((p.2.2.2.2.length : Int) < 1) then
 some false
else 
 bif decide ((p.2.2.2.2.length : Int) > 6) then
 some false
else 
(slices_ContainsFunc_Command_by_GoodProgram_1 p.2.2.2 (p, ())).bind fun r3 =>
 some (!r3) := Eq.trans (inf_call_eq (H := H) 204 p) (by kernel_rfl)
theorem impl_isSmall_eq (p : DProgram) : impl_isSmall p =
(impl_GoodProgram p).bind fun r =>
 bif r then
 some (decide ((IntKind.i64.wrap (p.1 * p.2.1)) ≤ 5))
else 
 some false := Eq.trans (inf_call_eq (H := H) 125 p) (by kernel_rfl)
theorem impl_operandsOfSaid_eq (op : Int) : impl_operandsOfSaid op =
 bif (op == 1) then
 bif (op == 1) then
 some 0
else 
 bif (op == 3) then
 bif (op == 3) then
 some 1
else 
 bif (op == 5) then
 bif (op == 5) then
 some 2
else 
 some (-1)
else 
 bif (op == 6) then
 bif (op == 6) then
 some 2
else 
 some (-1)
else 
 bif (op == 7) then
 bif (op == 7) then
 some 2
else 
 some (-1)
else 
 bif (op == 8) then
 some 2
else 
 some (-1)
else 
 bif (op == 4) then
 some 1
else 
 bif (op == 5) then
 bif (op == 5) then
 some 2
else 
 some (-1)
else 
 bif (op == 6) then
 bif (op == 6) then
 some 2
else 
 some (-1)
else 
 bif (op == 7) then
 bif (op == 7) then
 some 2
else 
 some (-1)
else 
 bif (op == 8) then
 some 2
else 
 some (-1)
else 
 bif (op == 2) then
 some 0
else 
 bif (op == 3) then
 bif (op == 3) then
 some 1
else 
 bif (op == 5) then
 bif (op == 5) then
 some 2
else 
 some (-1)
else 
 bif (op == 6) then
 bif (op == 6) then
 some 2
else 
 some (-1)
else 
 bif (op == 7) then
 bif (op == 7) then
 some 2
else 
 some (-1)
else 
 bif (op == 8) then
 some 2
else 
 some (-1)
else 
 bif (op == 4) then
 some 1
else 
 bif (op == 5) then
 bif (op == 5) then
 some 2
else 
 some (-1)
else 
 bif (op == 6) then
 bif (op == 6) then
 some 2
else 
 some (-1)
else 
 bif (op == 7) then
 bif (op == 7) then
 some 2
else 
 some (-1)
else 
 bif (op == 8) then
 some 2
else 
 some (-1) := Eq.trans (inf_call_eq (H := H) 185 op) (by kernel_rfl)
theorem impl_isSaid_eq (x : DSaid) : impl_isSaid x =
 bif (x.1 == 1) then
 bif decide (x.2 ≥ 0) then
 some (decide (x.2 < 3))
else 
 some false
else 
 bif (x.1 == 2) then
 bif (x.2 == 0) then
 some true
else 
 some (x.2 == 1)
else 
(impl_operandsOfSaid x.1).bind fun r =>
 bif decide (r > 0) then
 some (x.2 == 0)
else 
 some false := Eq.trans (inf_call_eq (H := H) 280 x) (by kernel_rfl)
theorem impl_GoodSaid_L0_eq (values : Int) (t15 : Bool × List DSaid) (t16 : Int) (t17 : Int) : impl_GoodSaid_L0 values t15 t16 t17 =
 bif decide (t17 < t16) then
 bif decide (0 ≤ t17) then
 bif decide (t17 < (t15.2.length : Int)) then
(impl_operandsOfSaid ((t15.2.getD (Int.toNat t17) (0, 0)).1)).bind fun r =>
(impl_isSaid (t15.2.getD (Int.toNat t17) (0, 0))).bind fun r1 =>
 bif !r1 then
 some (.inl false)
else 
 bif decide (values < r) then
 some (.inl false)
else 
(impl_GoodSaid_L0 (IntKind.i64.wrap (values + (IntKind.i64.wrap (1 - r)))) t15 t16 (IntKind.i64.wrap (t17 + 1))).bind fun r => some r
else none
else none
else 
 some (.inr values) := Eq.trans (inf_loop_eq (H := H) 205 0 (loopCode Tryz.f205 0) (values, (t15, (t16, t17))) key_impl_GoodSaid) (by kernel_rfl)
theorem impl_GoodSaid_eq (f : Bool × List DSaid) : impl_GoodSaid f =
 bif decide ((f.2.length : Int) < 1) then
 some false
else 
 bif decide ((f.2.length : Int) > 16) then
 some false
else 
(impl_GoodSaid_L0 0 f (f.2.length : Int) 0).bind fun r =>
 match r with
| .inl y =>
 some y
| .inr z =>
 some (z == 1) := Eq.trans (inf_call_eq (H := H) 205 f) (by kernel_rfl)
theorem slices_Clone_int_eq (s : Bool × List Int) : slices_Clone_int s =
 bif s.1 then
 some (true, [])
else 
 bif decide (([] : List Int).length + s.2.length ≤ lim) then
 some (false, ([] ++ s.2))
else none := Eq.trans (inf_call_eq (H := H) 158 s) (by kernel_rfl)
theorem impl_operandIndexes_L0_eq (out : Bool × List (Bool × List Int)) (stack : Bool × List Int) (t10 : Bool × List DSaid) (t11 : Int) (t12 : Int) : impl_operandIndexes_L0 out stack t10 t11 t12 =
 bif decide (t12 < t11) then
 bif decide (0 ≤ t12) then
 bif decide (t12 < (t10.2.length : Int)) then
(impl_operandsOfSaid ((t10.2.getD (Int.toNat t12) (0, 0)).1)).bind fun r =>
 bif decide (0 ≤ (IntKind.i64.wrap ((stack.2.length : Int) - r))) then
 bif decide ((IntKind.i64.wrap ((stack.2.length : Int) - r)) ≤ (stack.2.length : Int)) then
(slices_Clone_int (stack.1, ((stack.2.take stack.2.length).drop (Int.toNat (IntKind.i64.wrap ((stack.2.length : Int) - r)))))).bind fun r1 =>
 bif decide (out.2.length + [(r1.1, r1.2)].length ≤ lim) then
 bif decide (0 ≤ (IntKind.i64.wrap ((stack.2.length : Int) - r))) then
 bif decide ((IntKind.i64.wrap ((stack.2.length : Int) - r)) ≤ (stack.2.length : Int)) then
 bif decide (((stack.2.take (Int.toNat (IntKind.i64.wrap ((stack.2.length : Int) - r)))).drop 0).length + [t12].length ≤ lim) then
(impl_operandIndexes_L0 ((out.1 && false), (out.2 ++ [(r1.1, r1.2)])) ((stack.1 && false), (((stack.2.take (Int.toNat (IntKind.i64.wrap ((stack.2.length : Int) - r)))).drop 0) ++ [t12])) t10 t11 (IntKind.i64.wrap (t12 + 1))).bind fun r => some r
else none
else none
else none
else none
else none
else none
else none
else none
else 
 some (out.1, out.2) := Eq.trans (inf_loop_eq (H := H) 281 0 (loopCode Tryz.f281 0) (out, (stack, (t10, (t11, t12)))) key_impl_operandIndexes) (by kernel_rfl)
theorem impl_operandIndexes_eq (f : Bool × List DSaid) : impl_operandIndexes f =
(impl_operandIndexes_L0 (false, []) (false, []) f (f.2.length : Int) 0).bind fun r =>
 some (r.1, r.2) := Eq.trans (inf_call_eq (H := H) 281 f) (by kernel_rfl)
theorem slices_Sort_int_eq (s : Bool × List Int) : slices_Sort_int s =
(sortI s).bind fun r => some r := Eq.trans (inf_call_eq (H := H) 282 s) (by kernel_rfl)
theorem slices_Compact_int_eq (s : Bool × List Int) : slices_Compact_int s =
(compactI s).bind fun r => some r := Eq.trans (inf_call_eq (H := H) 283 s) (by kernel_rfl)
theorem impl_tracked_L0_eq (out : Bool × List Int) (operands : Bool × List (Bool × List Int)) (t13 : Bool × List DSaid) (t14 : Int) (t15 : Int) : impl_tracked_L0 out operands t13 t14 t15 =
 bif decide (t15 < t14) then
 bif decide (0 ≤ t15) then
 bif decide (t15 < (t13.2.length : Int)) then
 bif (((t13.2.getD (Int.toNat t15) (0, 0)).1) == 7) then
 bif (((t13.2.getD (Int.toNat t15) (0, 0)).1) == 7) then
 bif decide (0 ≤ t15) then
 bif decide (t15 < (operands.2.length : Int)) then
 bif decide (1 < (((operands.2.getD (Int.toNat t15) (true, [])).2).length : Int)) then
 bif decide (out.2.length + [t15, (((operands.2.getD (Int.toNat t15) (true, [])).2).getD 1 0)].length ≤ lim) then
(impl_tracked_L0 ((out.1 && false), (out.2 ++ [t15, (((operands.2.getD (Int.toNat t15) (true, [])).2).getD 1 0)])) operands t13 t14 (IntKind.i64.wrap (t15 + 1))).bind fun r => some r
else none
else none
else none
else none
else 
 bif (((t13.2.getD (Int.toNat t15) (0, 0)).1) == 4) then
 bif decide (0 ≤ t15) then
 bif decide (t15 < (operands.2.length : Int)) then
 bif decide (0 < (((operands.2.getD (Int.toNat t15) (true, [])).2).length : Int)) then
 bif decide (out.2.length + [(((operands.2.getD (Int.toNat t15) (true, [])).2).getD 0 0)].length ≤ lim) then
(impl_tracked_L0 ((out.1 && false), (out.2 ++ [(((operands.2.getD (Int.toNat t15) (true, [])).2).getD 0 0)])) operands t13 t14 (IntKind.i64.wrap (t15 + 1))).bind fun r => some r
else none
else none
else none
else none
else 
(impl_tracked_L0 (out.1, out.2) operands t13 t14 (IntKind.i64.wrap (t15 + 1))).bind fun r => some r
else 
 bif (((t13.2.getD (Int.toNat t15) (0, 0)).1) == 8) then
 bif decide (0 ≤ t15) then
 bif decide (t15 < (operands.2.length : Int)) then
 bif decide (1 < (((operands.2.getD (Int.toNat t15) (true, [])).2).length : Int)) then
 bif decide (out.2.length + [t15, (((operands.2.getD (Int.toNat t15) (true, [])).2).getD 1 0)].length ≤ lim) then
(impl_tracked_L0 ((out.1 && false), (out.2 ++ [t15, (((operands.2.getD (Int.toNat t15) (true, [])).2).getD 1 0)])) operands t13 t14 (IntKind.i64.wrap (t15 + 1))).bind fun r => some r
else none
else none
else none
else none
else 
 bif (((t13.2.getD (Int.toNat t15) (0, 0)).1) == 4) then
 bif decide (0 ≤ t15) then
 bif decide (t15 < (operands.2.length : Int)) then
 bif decide (0 < (((operands.2.getD (Int.toNat t15) (true, [])).2).length : Int)) then
 bif decide (out.2.length + [(((operands.2.getD (Int.toNat t15) (true, [])).2).getD 0 0)].length ≤ lim) then
(impl_tracked_L0 ((out.1 && false), (out.2 ++ [(((operands.2.getD (Int.toNat t15) (true, [])).2).getD 0 0)])) operands t13 t14 (IntKind.i64.wrap (t15 + 1))).bind fun r => some r
else none
else none
else none
else none
else 
(impl_tracked_L0 (out.1, out.2) operands t13 t14 (IntKind.i64.wrap (t15 + 1))).bind fun r => some r
else none
else none
else 
 some (out.1, out.2) := Eq.trans (inf_loop_eq (H := H) 206 0 (loopCode Tryz.f206 0) (out, (operands, (t13, (t14, t15)))) key_impl_tracked) (by kernel_rfl)
theorem impl_tracked_eq (f : Bool × List DSaid) : impl_tracked f =
(impl_operandIndexes f).bind fun r =>
(impl_tracked_L0 (false, [IntKind.i64.wrap ((f.2.length : Int) - 1)]) (r.1, r.2) f (f.2.length : Int) 0).bind fun r1 =>
(slices_Sort_int (r1.1, r1.2)).bind fun r2 =>
(slices_Compact_int (r2.1, r2.2)).bind fun r3 =>
 some (r3.1, r3.2) := Eq.trans (inf_call_eq (H := H) 206 f) (by kernel_rfl)
theorem impl_isTracked_eq (f : Bool × List DSaid) : impl_isTracked f =
(impl_GoodSaid f).bind fun r =>
 bif r then
(impl_tracked f).bind fun r1 =>
 some (decide ((r1.2.length : Int) ≤ 5))
else 
 some false := Eq.trans (inf_call_eq (H := H) 126 f) (by kernel_rfl)
theorem impl_GoodQuestion_1_eq (t : Bool × List DNode) (a1 : DQuestion) : impl_GoodQuestion_1 t a1 =
(impl_Program_isCondition a1.1 t).bind fun r =>
 some (!r) := Eq.trans (inf_call_eq (H := H) 128 (t, a1)) (by kernel_rfl)
theorem slices_IndexFunc_Node_by_GoodQuestion_1_L0_eq (s : Bool × List (Bool × List DNode)) (f : DQuestion × Unit) (t7 : Int) (t8 : Int) : slices_IndexFunc_Node_by_GoodQuestion_1_L0 s f t7 t8 =
 bif decide (t8 < t7) then
 bif decide (0 ≤ t8) then
 bif decide (t8 < (s.2.length : Int)) then
(impl_GoodQuestion_1 (s.2.getD (Int.toNat t8) (true, [])) f.1).bind fun r =>
 bif r then
 some (.inl t8)
else 
(slices_IndexFunc_Node_by_GoodQuestion_1_L0 s f t7 (IntKind.i64.wrap (t8 + 1))).bind fun r => some r
else none
else none
else 
 some (.inr ()) := Eq.trans (inf_loop_eq (H := H) 207 0 (loopCode Tryz.f207 0) (s, (f, (t7, t8))) key_slices_IndexFunc_Node_by_GoodQuestion_1) (by kernel_rfl)
theorem slices_IndexFunc_Node_by_GoodQuestion_1_eq (s : Bool × List (Bool × List DNode)) (f : DQuestion × Unit) : slices_IndexFunc_Node_by_GoodQuestion_1 s f =
(slices_IndexFunc_Node_by_GoodQuestion_1_L0 s f (s.2.length : Int) 0).bind fun r =>
 match r with
| .inl y =>
 some y
| .inr z =>
 some (-1) := Eq.trans (inf_call_eq (H := H) 207 (s, f)) (by kernel_rfl)
theorem slices_ContainsFunc_Node_by_GoodQuestion_1_eq (s : Bool × List (Bool × List DNode)) (f : DQuestion × Unit) : slices_ContainsFunc_Node_by_GoodQuestion_1 s f =
(slices_IndexFunc_Node_by_GoodQuestion_1 s f).bind fun r =>
 some (decide (r ≥ 0)) := Eq.trans (inf_call_eq (H := H) 127 (s, f)) (by kernel_rfl)
theorem impl_GoodQuestion_eq (q : DQuestion) : impl_GoodQuestion q =
(impl_isSmall q.1).bind fun r =>
 bif !r then
 some false
else 
 bif ((q.2.1.2.length : Int) != 3) then
 some false
else 
(impl_isTracked q.2.2).bind fun r1 =>
 bif !r1 then
 some false
else 
(slices_ContainsFunc_Node_by_GoodQuestion_1 q.2.1 (q, ())).bind fun r2 =>
 some (!r2) := Eq.trans (inf_call_eq (H := H) 63 q) (by kernel_rfl)
theorem impl_Program_arePreds_1_eq (t : Bool × List DNode) (a1 : DProgram) : impl_Program_arePreds_1 t a1 =
(impl_Program_isCondition a1 t).bind fun r =>
 some (!r) := Eq.trans (inf_call_eq (H := H) 130 (t, a1)) (by kernel_rfl)
theorem slices_IndexFunc_Node_by_Program_arePreds_1_L0_eq (s : Bool × List (Bool × List DNode)) (f : DProgram × Unit) (t7 : Int) (t8 : Int) : slices_IndexFunc_Node_by_Program_arePreds_1_L0 s f t7 t8 =
 bif decide (t8 < t7) then
 bif decide (0 ≤ t8) then
 bif decide (t8 < (s.2.length : Int)) then
(impl_Program_arePreds_1 (s.2.getD (Int.toNat t8) (true, [])) f.1).bind fun r =>
 bif r then
 some (.inl t8)
else 
(slices_IndexFunc_Node_by_Program_arePreds_1_L0 s f t7 (IntKind.i64.wrap (t8 + 1))).bind fun r => some r
else none
else none
else 
 some (.inr ()) := Eq.trans (inf_loop_eq (H := H) 10094 0 (loopCode Tryz.f207 0) (s, (f, (t7, t8))) key_slices_IndexFunc_Node_by_Program_arePreds_1) (by kernel_rfl)
theorem slices_IndexFunc_Node_by_Program_arePreds_1_eq (s : Bool × List (Bool × List DNode)) (f : DProgram × Unit) : slices_IndexFunc_Node_by_Program_arePreds_1 s f =
(slices_IndexFunc_Node_by_Program_arePreds_1_L0 s f (s.2.length : Int) 0).bind fun r =>
 match r with
| .inl y =>
 some y
| .inr z =>
 some (-1) := Eq.trans (inf_call_eq (H := H) 10094 (s, f)) (by kernel_rfl)
theorem slices_ContainsFunc_Node_by_Program_arePreds_1_eq (s : Bool × List (Bool × List DNode)) (f : DProgram × Unit) : slices_ContainsFunc_Node_by_Program_arePreds_1 s f =
(slices_IndexFunc_Node_by_Program_arePreds_1 s f).bind fun r =>
 some (decide (r ≥ 0)) := Eq.trans (inf_call_eq (H := H) 10093 (s, f)) (by kernel_rfl)
theorem impl_Program_arePreds_eq (p : DProgram) (preds : Bool × List (Bool × List DNode)) (least : Int) : impl_Program_arePreds p preds least =
 bif decide ((preds.2.length : Int) ≥ least) then
 bif decide ((preds.2.length : Int) ≤ 8) then
(slices_ContainsFunc_Node_by_Program_arePreds_1 preds (p, ())).bind fun r =>
 some (!r)
else 
 some false
else 
 some false := Eq.trans (inf_call_eq (H := H) 64 (p, (preds, least))) (by kernel_rfl)
theorem slices_Grow_NodeS_eq (n : Int) : slices_Grow_NodeS n =
 bif decide (n < 0) then
 none
else 
 bif decide ((IntKind.i64.wrap (n - (IntKind.i64.wrap (0 - 0)))) > 0) then
 bif decide (0 ≤ (IntKind.i64.wrap (n - (IntKind.i64.wrap (0 - 0))))) then
 bif decide ((IntKind.i64.wrap (n - (IntKind.i64.wrap (0 - 0)))) ≤ lim) then
 bif decide (([] : List (Bool × List DNode)).length + (List.replicate (Int.toNat (IntKind.i64.wrap (n - (IntKind.i64.wrap (0 - 0))))) ((true, []) : Bool × List DNode)).length ≤ lim) then
 bif decide (0 ≤ (([] ++ (List.replicate (Int.toNat (IntKind.i64.wrap (n - (IntKind.i64.wrap (0 - 0))))) ((true, []) : Bool × List DNode))).length : Int)) then
 some ((List.replicate (Int.toNat (IntKind.i64.wrap (n - (IntKind.i64.wrap (0 - 0))))) ((true, []) : Bool × List DNode)).isEmpty, ((([] ++ (List.replicate (Int.toNat (IntKind.i64.wrap (n - (IntKind.i64.wrap (0 - 0))))) ((true, []) : Bool × List DNode))).take 0).drop 0))
else none
else none
else none
else none
else 
 some (true, []) := Eq.trans (inf_call_eq (H := H) 133 n) (by kernel_rfl)
theorem slices_Concat_NodeS_L0_eq (slices : Bool × List (Bool × List (Bool × List DNode))) (size_ : Int) (t9 : Bool × List (Bool × List (Bool × List DNode))) (t10 : Int) (t11 : Int) : slices_Concat_NodeS_L0 slices size_ t9 t10 t11 =
 bif decide (t11 < t10) then
 bif decide (0 ≤ t11) then
 bif decide (t11 < (t9.2.length : Int)) then
 bif decide ((IntKind.i64.wrap (size_ + (((t9.2.getD (Int.toNat t11) (true, [])).2).length : Int))) < 0) then
 none
else 
(slices_Concat_NodeS_L0 slices (IntKind.i64.wrap (size_ + (((t9.2.getD (Int.toNat t11) (true, [])).2).length : Int))) t9 t10 (IntKind.i64.wrap (t11 + 1))).bind fun r => some r
else none
else none
else 
 some size_ := Eq.trans (inf_loop_eq (H := H) 66 0 (loopCode Tryz.f66 0) (slices, (size_, (t9, (t10, t11)))) key_slices_Concat_NodeS) (by kernel_rfl)
theorem slices_Concat_NodeS_L2_eq (newslice : Bool × List (Bool × List DNode)) (t25 : Bool × List (Bool × List (Bool × List DNode))) (t26 : Int) (t27 : Int) : slices_Concat_NodeS_L2 newslice t25 t26 t27 =
 bif decide (t27 < t26) then
 bif decide (0 ≤ t27) then
 bif decide (t27 < (t25.2.length : Int)) then
 bif decide (newslice.2.length + ((t25.2.getD (Int.toNat t27) (true, [])).2).length ≤ lim) then
(slices_Concat_NodeS_L2 ((newslice.1 && ((t25.2.getD (Int.toNat t27) (true, [])).2).isEmpty), (newslice.2 ++ ((t25.2.getD (Int.toNat t27) (true, [])).2))) t25 t26 (IntKind.i64.wrap (t27 + 1))).bind fun r => some r
else none
else none
else none
else 
 some (newslice.1, newslice.2) := Eq.trans (inf_loop_eq (H := H) 66 2 (loopCode Tryz.f66 2) (newslice, (t25, (t26, t27))) key_slices_Concat_NodeS) (by kernel_rfl)
theorem slices_Concat_NodeS_eq (slices : Bool × List (Bool × List (Bool × List DNode))) : slices_Concat_NodeS slices =
(slices_Concat_NodeS_L0 slices 0 slices (slices.2.length : Int) 0).bind fun r =>
(slices_Grow_NodeS r).bind fun r1 =>
(slices_Concat_NodeS_L2 (r1.1, r1.2) slices (slices.2.length : Int) 0).bind fun r2 =>
 some (r2.1, r2.2) := Eq.trans (inf_call_eq (H := H) 66 slices) (by kernel_rfl)
theorem impl_Program_states_eq (p : DProgram) : impl_Program_states p =
 bif decide ((IntKind.i64.wrap (p.1 * p.2.1)) < 0) then
 none
else 
 some (bShl .i64 1 (IntKind.i64.wrap (p.1 * p.2.1))) := Eq.trans (inf_call_eq (H := H) 131 p) (by kernel_rfl)
theorem impl_Program_stateOf_L0_eq (no : Int) (p : DProgram) (out : Bool × List Int) (t9 : Int) (t10 : Int) : impl_Program_stateOf_L0 no p out t9 t10 =
 bif decide (t10 < t9) then
 bif decide ((IntKind.i64.wrap (p.1 * t10)) < 0) then
 none
else 
(impl_mask p.1).bind fun r =>
 bif decide (out.2.length + [bAnd .u64 (bShr .u64 (IntKind.u64.wrap no) (IntKind.i64.wrap (p.1 * t10))) r].length ≤ lim) then
(impl_Program_stateOf_L0 no p ((out.1 && false), (out.2 ++ [bAnd .u64 (bShr .u64 (IntKind.u64.wrap no) (IntKind.i64.wrap (p.1 * t10))) r])) t9 (IntKind.i64.wrap (t10 + 1))).bind fun r => some r
else none
else 
 some (out.1, out.2) := Eq.trans (inf_loop_eq (H := H) 106 0 (loopCode Tryz.f106 0) (no, (p, (out, (t9, t10)))) key_impl_Program_stateOf) (by kernel_rfl)
theorem impl_Program_stateOf_eq (p : DProgram) (no : Int) : impl_Program_stateOf p no =
(impl_Program_stateOf_L0 no p (false, []) p.2.1 0).bind fun r =>
 some (r.1, r.2) := Eq.trans (inf_call_eq (H := H) 106 (p, no)) (by kernel_rfl)
theorem impl_areWords_eq (wide : Int) (a : Int) (b : Int) : impl_areWords wide a b =
(impl_GoodWord wide a).bind fun r =>
 bif r then
(impl_GoodWord wide b).bind fun r1 =>
 some r1
else 
 some false := Eq.trans (inf_call_eq (H := H) 347 (wide, (a, b))) (by kernel_rfl)
theorem bits_Div64_eq (hi : Int) (lo : Int) (y : Int) : bits_Div64 hi lo y =
 bif (y == 0) then
 none
else 
 bif decide (y ≤ hi) then
 none
else 
 bif (hi == 0) then
 bif (y == 0) then
 none
else 
 bif (y == 0) then
 none
else 
 some (IntKind.u64.wrap (Int.tdiv lo y), Int.tmod lo y)
else none := Eq.trans (inf_call_eq (H := H) 348 (hi, (lo, y))) (by kernel_rfl)
theorem impl_DivWord_eq (wide : Int) (a : Int) (b : Int) : impl_DivWord wide a b =
(impl_areWords wide a b).bind fun r =>
 bif !r then
 some (0, (0, false))
else 
 bif (b == 0) then
(impl_mask wide).bind fun r1 =>
 some (r1, (a, true))
else 
(bits_Div64 0 a b).bind fun r2 =>
 some (r2.1, (r2.2, true)) := Eq.trans (inf_call_eq (H := H) 311 (wide, (a, b))) (by kernel_rfl)
theorem impl_shift_eq (wide : Int) (a : Int) (by_ : Int) (left_ : Bool) : impl_shift wide a by_ left_ =
 bif decide (by_ ≥ (IntKind.u64.wrap wide)) then
 some 0
else 
 bif left_ then
 bif decide (by_ < 0) then
 none
else 
(impl_mask wide).bind fun r =>
 some (bAnd .u64 (bShl .u64 a by_) r)
else 
 bif decide (by_ < 0) then
 none
else 
 some (bShr .u64 a by_) := Eq.trans (inf_call_eq (H := H) 312 (wide, (a, (by_, left_)))) (by kernel_rfl)
theorem impl_truth_eq (holds : Bool) : impl_truth holds =
 bif holds then
 some 1
else 
 some 0 := Eq.trans (inf_call_eq (H := H) 313 holds) (by kernel_rfl)
theorem impl_signed_eq (wide : Int) (a : Int) : impl_signed wide a =
 bif decide ((IntKind.i64.wrap (64 - wide)) < 0) then
 none
else 
 bif decide ((IntKind.i64.wrap (64 - wide)) < 0) then
 none
else 
 some (bShr .i64 (IntKind.i64.wrap (bShl .u64 a (IntKind.i64.wrap (64 - wide)))) (IntKind.i64.wrap (64 - wide))) := Eq.trans (inf_call_eq (H := H) 314 (wide, a)) (by kernel_rfl)
theorem impl_apply_eq (wide : Int) (op : Int) (a : Int) (b : Int) : impl_apply wide op a b =
 bif (op == 3) then
(impl_mask wide).bind fun r =>
 some (bAnd .u64 (IntKind.u64.wrap (a + b)) r)
else 
 bif (op == 4) then
(impl_mask wide).bind fun r1 =>
 some (bAnd .u64 (IntKind.u64.wrap (a - b)) r1)
else 
 bif (op == 5) then
(impl_mask wide).bind fun r2 =>
 some (bAnd .u64 (IntKind.u64.wrap (a * b)) r2)
else 
 bif (op == 6) then
(impl_DivWord wide a b).bind fun r3 =>
(impl_mask wide).bind fun r4 =>
 some (bAnd .u64 r3.1 r4)
else 
 bif (op == 7) then
(impl_DivWord wide a b).bind fun r5 =>
(impl_mask wide).bind fun r6 =>
 some (bAnd .u64 r5.2.1 r6)
else 
 bif (op == 8) then
 bif (op == 8) then
(impl_mask wide).bind fun r7 =>
 some (bAnd .u64 (bAnd .u64 a b) r7)
else 
 bif (op == 9) then
 bif (op == 9) then
(impl_mask wide).bind fun r8 =>
 some (bAnd .u64 (bOr .u64 a b) r8)
else 
 bif (op == 10) then
(impl_mask wide).bind fun r9 =>
 some (bAnd .u64 (bXor .u64 a b) r9)
else 
 bif (op == 11) then
 bif (op == 11) then
(impl_shift wide a b (op == 11)).bind fun r10 =>
(impl_mask wide).bind fun r11 =>
 some (bAnd .u64 r10 r11)
else 
 bif (op == 14) then
(impl_truth (a == b)).bind fun r12 =>
(impl_mask wide).bind fun r13 =>
 some (bAnd .u64 r12 r13)
else 
 bif (op == 15) then
(impl_truth (decide (a < b))).bind fun r14 =>
(impl_mask wide).bind fun r15 =>
 some (bAnd .u64 r14 r15)
else 
 bif (op == 16) then
(impl_signed wide a).bind fun r16 =>
(impl_signed wide b).bind fun r17 =>
(impl_truth (decide (r16 < r17))).bind fun r18 =>
(impl_mask wide).bind fun r19 =>
 some (bAnd .u64 r18 r19)
else 
(impl_mask wide).bind fun r20 =>
 some (bAnd .u64 0 r20)
else 
 bif (op == 12) then
(impl_shift wide a b (op == 11)).bind fun r21 =>
(impl_mask wide).bind fun r22 =>
 some (bAnd .u64 r21 r22)
else 
 bif (op == 14) then
(impl_truth (a == b)).bind fun r23 =>
(impl_mask wide).bind fun r24 =>
 some (bAnd .u64 r23 r24)
else 
 bif (op == 15) then
(impl_truth (decide (a < b))).bind fun r25 =>
(impl_mask wide).bind fun r26 =>
 some (bAnd .u64 r25 r26)
else 
 bif (op == 16) then
(impl_signed wide a).bind fun r27 =>
(impl_signed wide b).bind fun r28 =>
(impl_truth (decide (r27 < r28))).bind fun r29 =>
(impl_mask wide).bind fun r30 =>
 some (bAnd .u64 r29 r30)
else 
(impl_mask wide).bind fun r31 =>
 some (bAnd .u64 0 r31)
else 
 bif (op == 18) then
(impl_mask wide).bind fun r32 =>
 some (bAnd .u64 (bOr .u64 a b) r32)
else 
 bif (op == 10) then
(impl_mask wide).bind fun r33 =>
 some (bAnd .u64 (bXor .u64 a b) r33)
else 
 bif (op == 11) then
 bif (op == 11) then
(impl_shift wide a b (op == 11)).bind fun r34 =>
(impl_mask wide).bind fun r35 =>
 some (bAnd .u64 r34 r35)
else 
 bif (op == 14) then
(impl_truth (a == b)).bind fun r36 =>
(impl_mask wide).bind fun r37 =>
 some (bAnd .u64 r36 r37)
else 
 bif (op == 15) then
(impl_truth (decide (a < b))).bind fun r38 =>
(impl_mask wide).bind fun r39 =>
 some (bAnd .u64 r38 r39)
else 
 bif (op == 16) then
(impl_signed wide a).bind fun r40 =>
(impl_signed wide b).bind fun r41 =>
(impl_truth (decide (r40 < r41))).bind fun r42 =>
(impl_mask wide).bind fun r43 =>
 some (bAnd .u64 r42 r43)
else 
(impl_mask wide).bind fun r44 =>
 some (bAnd .u64 0 r44)
else 
 bif (op == 12) then
(impl_shift wide a b (op == 11)).bind fun r45 =>
(impl_mask wide).bind fun r46 =>
 some (bAnd .u64 r45 r46)
else 
 bif (op == 14) then
(impl_truth (a == b)).bind fun r47 =>
(impl_mask wide).bind fun r48 =>
 some (bAnd .u64 r47 r48)
else 
 bif (op == 15) then
(impl_truth (decide (a < b))).bind fun r49 =>
(impl_mask wide).bind fun r50 =>
 some (bAnd .u64 r49 r50)
else 
 bif (op == 16) then
(impl_signed wide a).bind fun r51 =>
(impl_signed wide b).bind fun r52 =>
(impl_truth (decide (r51 < r52))).bind fun r53 =>
(impl_mask wide).bind fun r54 =>
 some (bAnd .u64 r53 r54)
else 
(impl_mask wide).bind fun r55 =>
 some (bAnd .u64 0 r55)
else 
 bif (op == 17) then
(impl_mask wide).bind fun r56 =>
 some (bAnd .u64 (bAnd .u64 a b) r56)
else 
 bif (op == 9) then
 bif (op == 9) then
(impl_mask wide).bind fun r57 =>
 some (bAnd .u64 (bOr .u64 a b) r57)
else 
 bif (op == 10) then
(impl_mask wide).bind fun r58 =>
 some (bAnd .u64 (bXor .u64 a b) r58)
else 
 bif (op == 11) then
 bif (op == 11) then
(impl_shift wide a b (op == 11)).bind fun r59 =>
(impl_mask wide).bind fun r60 =>
 some (bAnd .u64 r59 r60)
else 
 bif (op == 14) then
(impl_truth (a == b)).bind fun r61 =>
(impl_mask wide).bind fun r62 =>
 some (bAnd .u64 r61 r62)
else 
 bif (op == 15) then
(impl_truth (decide (a < b))).bind fun r63 =>
(impl_mask wide).bind fun r64 =>
 some (bAnd .u64 r63 r64)
else 
 bif (op == 16) then
(impl_signed wide a).bind fun r65 =>
(impl_signed wide b).bind fun r66 =>
(impl_truth (decide (r65 < r66))).bind fun r67 =>
(impl_mask wide).bind fun r68 =>
 some (bAnd .u64 r67 r68)
else 
(impl_mask wide).bind fun r69 =>
 some (bAnd .u64 0 r69)
else 
 bif (op == 12) then
(impl_shift wide a b (op == 11)).bind fun r70 =>
(impl_mask wide).bind fun r71 =>
 some (bAnd .u64 r70 r71)
else 
 bif (op == 14) then
(impl_truth (a == b)).bind fun r72 =>
(impl_mask wide).bind fun r73 =>
 some (bAnd .u64 r72 r73)
else 
 bif (op == 15) then
(impl_truth (decide (a < b))).bind fun r74 =>
(impl_mask wide).bind fun r75 =>
 some (bAnd .u64 r74 r75)
else 
 bif (op == 16) then
(impl_signed wide a).bind fun r76 =>
(impl_signed wide b).bind fun r77 =>
(impl_truth (decide (r76 < r77))).bind fun r78 =>
(impl_mask wide).bind fun r79 =>
 some (bAnd .u64 r78 r79)
else 
(impl_mask wide).bind fun r80 =>
 some (bAnd .u64 0 r80)
else 
 bif (op == 18) then
(impl_mask wide).bind fun r81 =>
 some (bAnd .u64 (bOr .u64 a b) r81)
else 
 bif (op == 10) then
(impl_mask wide).bind fun r82 =>
 some (bAnd .u64 (bXor .u64 a b) r82)
else 
 bif (op == 11) then
 bif (op == 11) then
(impl_shift wide a b (op == 11)).bind fun r83 =>
(impl_mask wide).bind fun r84 =>
 some (bAnd .u64 r83 r84)
else 
 bif (op == 14) then
(impl_truth (a == b)).bind fun r85 =>
(impl_mask wide).bind fun r86 =>
 some (bAnd .u64 r85 r86)
else 
 bif (op == 15) then
(impl_truth (decide (a < b))).bind fun r87 =>
(impl_mask wide).bind fun r88 =>
 some (bAnd .u64 r87 r88)
else 
 bif (op == 16) then
(impl_signed wide a).bind fun r89 =>
(impl_signed wide b).bind fun r90 =>
(impl_truth (decide (r89 < r90))).bind fun r91 =>
(impl_mask wide).bind fun r92 =>
 some (bAnd .u64 r91 r92)
else 
(impl_mask wide).bind fun r93 =>
 some (bAnd .u64 0 r93)
else 
 bif (op == 12) then
(impl_shift wide a b (op == 11)).bind fun r94 =>
(impl_mask wide).bind fun r95 =>
 some (bAnd .u64 r94 r95)
else 
 bif (op == 14) then
(impl_truth (a == b)).bind fun r96 =>
(impl_mask wide).bind fun r97 =>
 some (bAnd .u64 r96 r97)
else 
 bif (op == 15) then
(impl_truth (decide (a < b))).bind fun r98 =>
(impl_mask wide).bind fun r99 =>
 some (bAnd .u64 r98 r99)
else 
 bif (op == 16) then
(impl_signed wide a).bind fun r100 =>
(impl_signed wide b).bind fun r101 =>
(impl_truth (decide (r100 < r101))).bind fun r102 =>
(impl_mask wide).bind fun r103 =>
 some (bAnd .u64 r102 r103)
else 
(impl_mask wide).bind fun r104 =>
 some (bAnd .u64 0 r104) := Eq.trans (inf_call_eq (H := H) 243 (wide, (op, (a, b)))) (by kernel_rfl)
theorem impl_valueOf_L0_eq (wide : Int) (state : Bool × List Int) (stack : Bool × List Int) (t12 : Bool × List DNode) (t13 : Int) (t14 : Int) : impl_valueOf_L0 wide state stack t12 t13 t14 =
 bif decide (t14 < t13) then
 bif decide (0 ≤ t14) then
 bif decide (t14 < (t12.2.length : Int)) then
 bif (((t12.2.getD (Int.toNat t14) (0, 0)).1) == 1) then
 bif (((t12.2.getD (Int.toNat t14) (0, 0)).1) == 1) then
 bif decide (stack.2.length + [(t12.2.getD (Int.toNat t14) (0, 0)).2].length ≤ lim) then
(impl_valueOf_L0 wide state ((stack.1 && false), (stack.2 ++ [(t12.2.getD (Int.toNat t14) (0, 0)).2])) t12 t13 (IntKind.i64.wrap (t14 + 1))).bind fun r => some r
else none
else 
 bif (((t12.2.getD (Int.toNat t14) (0, 0)).1) == 2) then
 bif decide (0 ≤ ((t12.2.getD (Int.toNat t14) (0, 0)).2)) then
 bif decide (((t12.2.getD (Int.toNat t14) (0, 0)).2) < (state.2.length : Int)) then
 bif decide (stack.2.length + [(state.2.getD (Int.toNat ((t12.2.getD (Int.toNat t14) (0, 0)).2)) 0)].length ≤ lim) then
(impl_valueOf_L0 wide state ((stack.1 && false), (stack.2 ++ [(state.2.getD (Int.toNat ((t12.2.getD (Int.toNat t14) (0, 0)).2)) 0)])) t12 t13 (IntKind.i64.wrap (t14 + 1))).bind fun r => some r
else none
else none
else none
else 
 bif (((t12.2.getD (Int.toNat t14) (0, 0)).1) == 13) then
 bif decide (0 ≤ (IntKind.i64.wrap ((stack.2.length : Int) - 1))) then
 bif decide ((IntKind.i64.wrap ((stack.2.length : Int) - 1)) < (stack.2.length : Int)) then
(impl_mask wide).bind fun r =>
 bif decide (0 ≤ (IntKind.i64.wrap ((stack.2.length : Int) - 1))) then
 bif decide ((IntKind.i64.wrap ((stack.2.length : Int) - 1)) < (stack.2.length : Int)) then
(impl_valueOf_L0 wide state (stack.1, (stack.2.set (Int.toNat (IntKind.i64.wrap ((stack.2.length : Int) - 1))) (bAnd .u64 (bXor .u64 18446744073709551615 (stack.2.getD (Int.toNat (IntKind.i64.wrap ((stack.2.length : Int) - 1))) 0)) r))) t12 t13 (IntKind.i64.wrap (t14 + 1))).bind fun r => some r
else none
else none
else none
else none
else 
 bif (((t12.2.getD (Int.toNat t14) (0, 0)).1) == 19) then
 bif decide (0 ≤ (IntKind.i64.wrap ((stack.2.length : Int) - 1))) then
 bif decide ((IntKind.i64.wrap ((stack.2.length : Int) - 1)) < (stack.2.length : Int)) then
 bif decide (0 ≤ (IntKind.i64.wrap ((stack.2.length : Int) - 1))) then
 bif decide ((IntKind.i64.wrap ((stack.2.length : Int) - 1)) < (stack.2.length : Int)) then
(impl_valueOf_L0 wide state (stack.1, (stack.2.set (Int.toNat (IntKind.i64.wrap ((stack.2.length : Int) - 1))) (IntKind.u64.wrap (1 - (stack.2.getD (Int.toNat (IntKind.i64.wrap ((stack.2.length : Int) - 1))) 0))))) t12 t13 (IntKind.i64.wrap (t14 + 1))).bind fun r => some r
else none
else none
else none
else none
else 
 bif decide (0 ≤ (IntKind.i64.wrap ((IntKind.i64.wrap ((stack.2.length : Int) - 1)) - 1))) then
 bif decide ((IntKind.i64.wrap ((IntKind.i64.wrap ((stack.2.length : Int) - 1)) - 1)) ≤ (stack.2.length : Int)) then
 bif decide (0 ≤ (IntKind.i64.wrap ((IntKind.i64.wrap ((stack.2.length : Int) - 1)) - 1))) then
 bif decide ((IntKind.i64.wrap ((IntKind.i64.wrap ((stack.2.length : Int) - 1)) - 1)) < (stack.2.length : Int)) then
 bif decide (0 ≤ (IntKind.i64.wrap ((stack.2.length : Int) - 1))) then
 bif decide ((IntKind.i64.wrap ((stack.2.length : Int) - 1)) < (stack.2.length : Int)) then
(impl_apply wide ((t12.2.getD (Int.toNat t14) (0, 0)).1) (stack.2.getD (Int.toNat (IntKind.i64.wrap ((IntKind.i64.wrap ((stack.2.length : Int) - 1)) - 1))) 0) (stack.2.getD (Int.toNat (IntKind.i64.wrap ((stack.2.length : Int) - 1))) 0)).bind fun r1 =>
 bif decide (((stack.2.take (Int.toNat (IntKind.i64.wrap ((IntKind.i64.wrap ((stack.2.length : Int) - 1)) - 1)))).drop 0).length + [r1].length ≤ lim) then
(impl_valueOf_L0 wide state ((stack.1 && false), (((stack.2.take (Int.toNat (IntKind.i64.wrap ((IntKind.i64.wrap ((stack.2.length : Int) - 1)) - 1)))).drop 0) ++ [r1])) t12 t13 (IntKind.i64.wrap (t14 + 1))).bind fun r => some r
else none
else none
else none
else none
else none
else none
else none
else 
 bif (((t12.2.getD (Int.toNat t14) (0, 0)).1) == 20) then
 bif decide (stack.2.length + [(t12.2.getD (Int.toNat t14) (0, 0)).2].length ≤ lim) then
(impl_valueOf_L0 wide state ((stack.1 && false), (stack.2 ++ [(t12.2.getD (Int.toNat t14) (0, 0)).2])) t12 t13 (IntKind.i64.wrap (t14 + 1))).bind fun r => some r
else none
else 
 bif (((t12.2.getD (Int.toNat t14) (0, 0)).1) == 2) then
 bif decide (0 ≤ ((t12.2.getD (Int.toNat t14) (0, 0)).2)) then
 bif decide (((t12.2.getD (Int.toNat t14) (0, 0)).2) < (state.2.length : Int)) then
 bif decide (stack.2.length + [(state.2.getD (Int.toNat ((t12.2.getD (Int.toNat t14) (0, 0)).2)) 0)].length ≤ lim) then
(impl_valueOf_L0 wide state ((stack.1 && false), (stack.2 ++ [(state.2.getD (Int.toNat ((t12.2.getD (Int.toNat t14) (0, 0)).2)) 0)])) t12 t13 (IntKind.i64.wrap (t14 + 1))).bind fun r => some r
else none
else none
else none
else 
 bif (((t12.2.getD (Int.toNat t14) (0, 0)).1) == 13) then
 bif decide (0 ≤ (IntKind.i64.wrap ((stack.2.length : Int) - 1))) then
 bif decide ((IntKind.i64.wrap ((stack.2.length : Int) - 1)) < (stack.2.length : Int)) then
(impl_mask wide).bind fun r2 =>
 bif decide (0 ≤ (IntKind.i64.wrap ((stack.2.length : Int) - 1))) then
 bif decide ((IntKind.i64.wrap ((stack.2.length : Int) - 1)) < (stack.2.length : Int)) then
(impl_valueOf_L0 wide state (stack.1, (stack.2.set (Int.toNat (IntKind.i64.wrap ((stack.2.length : Int) - 1))) (bAnd .u64 (bXor .u64 18446744073709551615 (stack.2.getD (Int.toNat (IntKind.i64.wrap ((stack.2.length : Int) - 1))) 0)) r2))) t12 t13 (IntKind.i64.wrap (t14 + 1))).bind fun r => some r
else none
else none
else none
else none
else 
 bif (((t12.2.getD (Int.toNat t14) (0, 0)).1) == 19) then
 bif decide (0 ≤ (IntKind.i64.wrap ((stack.2.length : Int) - 1))) then
 bif decide ((IntKind.i64.wrap ((stack.2.length : Int) - 1)) < (stack.2.length : Int)) then
 bif decide (0 ≤ (IntKind.i64.wrap ((stack.2.length : Int) - 1))) then
 bif decide ((IntKind.i64.wrap ((stack.2.length : Int) - 1)) < (stack.2.length : Int)) then
(impl_valueOf_L0 wide state (stack.1, (stack.2.set (Int.toNat (IntKind.i64.wrap ((stack.2.length : Int) - 1))) (IntKind.u64.wrap (1 - (stack.2.getD (Int.toNat (IntKind.i64.wrap ((stack.2.length : Int) - 1))) 0))))) t12 t13 (IntKind.i64.wrap (t14 + 1))).bind fun r => some r
else none
else none
else none
else none
else 
 bif decide (0 ≤ (IntKind.i64.wrap ((IntKind.i64.wrap ((stack.2.length : Int) - 1)) - 1))) then
 bif decide ((IntKind.i64.wrap ((IntKind.i64.wrap ((stack.2.length : Int) - 1)) - 1)) ≤ (stack.2.length : Int)) then
 bif decide (0 ≤ (IntKind.i64.wrap ((IntKind.i64.wrap ((stack.2.length : Int) - 1)) - 1))) then
 bif decide ((IntKind.i64.wrap ((IntKind.i64.wrap ((stack.2.length : Int) - 1)) - 1)) < (stack.2.length : Int)) then
 bif decide (0 ≤ (IntKind.i64.wrap ((stack.2.length : Int) - 1))) then
 bif decide ((IntKind.i64.wrap ((stack.2.length : Int) - 1)) < (stack.2.length : Int)) then
(impl_apply wide ((t12.2.getD (Int.toNat t14) (0, 0)).1) (stack.2.getD (Int.toNat (IntKind.i64.wrap ((IntKind.i64.wrap ((stack.2.length : Int) - 1)) - 1))) 0) (stack.2.getD (Int.toNat (IntKind.i64.wrap ((stack.2.length : Int) - 1))) 0)).bind fun r3 =>
 bif decide (((stack.2.take (Int.toNat (IntKind.i64.wrap ((IntKind.i64.wrap ((stack.2.length : Int) - 1)) - 1)))).drop 0).length + [r3].length ≤ lim) then
(impl_valueOf_L0 wide state ((stack.1 && false), (((stack.2.take (Int.toNat (IntKind.i64.wrap ((IntKind.i64.wrap ((stack.2.length : Int) - 1)) - 1)))).drop 0) ++ [r3])) t12 t13 (IntKind.i64.wrap (t14 + 1))).bind fun r => some r
else none
else none
else none
else none
else none
else none
else none
else none
else none
else 
 some (stack.1, stack.2) := Eq.trans (inf_loop_eq (H := H) 182 0 (loopCode Tryz.f182 0) (wide, (state, (stack, (t12, (t13, t14))))) key_impl_valueOf) (by kernel_rfl)
theorem impl_valueOf_eq (wide : Int) (t : Bool × List DNode) (state : Bool × List Int) : impl_valueOf wide t state =
(impl_valueOf_L0 wide state (false, []) t (t.2.length : Int) 0).bind fun r =>
 bif decide (0 < (r.2.length : Int)) then
 some (r.2.getD 0 0)
else none := Eq.trans (inf_call_eq (H := H) 182 (wide, (t, state))) (by kernel_rfl)
theorem impl_numbered_L0_eq (t2 : DSight) (known : Bool × List (DSaid × Int)) (v : Bool × List Int) (t11 : Bool × List DSaid) (t12 : Int) (t13 : Int) : impl_numbered_L0 t2 known v t11 t12 t13 =
 bif decide (t13 < t12) then
 bif decide (0 ≤ t13) then
 bif decide (t13 < (t11.2.length : Int)) then
 bif !((mapGet tySaid (.int .i64) known.2 (t11.2.getD (Int.toNat t13) (0, 0))).isSome) then
 bif decide (known.2.length ≤ lim) then
 bif decide (v.2.length + [(known.2.length : Int)].length ≤ lim) then
(impl_numbered_L0 t2 (false, (mapSet tySaid (.int .i64) known.2 (t11.2.getD (Int.toNat t13) (0, 0)) (known.2.length : Int))) ((v.1 && false), (v.2 ++ [(known.2.length : Int)])) t11 t12 (IntKind.i64.wrap (t13 + 1))).bind fun r => some r
else none
else none
else 
 bif decide (v.2.length + [((mapGet tySaid (.int .i64) known.2 (t11.2.getD (Int.toNat t13) (0, 0))).getD 0)].length ≤ lim) then
(impl_numbered_L0 t2 (false, known.2) ((v.1 && false), (v.2 ++ [((mapGet tySaid (.int .i64) known.2 (t11.2.getD (Int.toNat t13) (0, 0))).getD 0)])) t11 t12 (IntKind.i64.wrap (t13 + 1))).bind fun r => some r
else none
else none
else none
else 
 some ((false, known.2), (v.1, v.2)) := Eq.trans (inf_loop_eq (H := H) 286 0 (loopCode Tryz.f286 0) (t2, (known, (v, (t11, (t12, t13))))) key_impl_numbered) (by kernel_rfl)
theorem impl_numbered_eq (keys : Bool × List DSaid) : impl_numbered keys =
(impl_numbered_L0 (true, []) (false, []) (true, []) keys (keys.2.length : Int) 0).bind fun r =>
 some (r.2.1, r.2.2) := Eq.trans (inf_call_eq (H := H) 286 keys) (by kernel_rfl)
theorem impl_SightBy_L0_eq (preds : Bool × List (Bool × List DNode)) (p : DProgram) (t4 : DSight) (keys : Bool × List DSaid) (t25 : Int) (t26 : Int) : impl_SightBy_L0 preds p t4 keys t25 t26 =
 bif decide (t26 < t25) then
(impl_Program_stateOf p t26).bind fun r =>
(impl_SightBy_L2 preds p t4 (keys.1, keys.2) t26 (r.1, r.2) t25 t26 preds (preds.2.length : Int) 0).bind fun r1 =>
(impl_SightBy_L0 preds p t4 (r1.1, r1.2) t25 (IntKind.i64.wrap (t26 + 1))).bind fun r => some r
else 
 some (keys.1, keys.2) := Eq.trans (inf_loop_eq (H := H) 209 0 (loopCode Tryz.f209 0) (preds, (p, (t4, (keys, (t25, t26))))) key_impl_SightBy) (by kernel_rfl)
theorem impl_SightBy_L2_eq (preds : Bool × List (Bool × List DNode)) (p : DProgram) (t4 : DSight) (keys : Bool × List DSaid) (no : Int) (s : Bool × List Int) (t25 : Int) (t26 : Int) (t32 : Bool × List (Bool × List DNode)) (t33 : Int) (t34 : Int) : impl_SightBy_L2 preds p t4 keys no s t25 t26 t32 t33 t34 =
 bif decide (t34 < t33) then
 bif decide (0 ≤ t34) then
 bif decide (t34 < (t32.2.length : Int)) then
 bif decide (0 ≤ no) then
 bif decide (no < (keys.2.length : Int)) then
(impl_valueOf p.1 (t32.2.getD (Int.toNat t34) (true, [])) s).bind fun r =>
 bif decide (t34 < 0) then
 none
else 
 bif decide (0 ≤ no) then
 bif decide (no < (keys.2.length : Int)) then
(impl_SightBy_L2 preds p t4 (keys.1, (keys.2.set (Int.toNat no) (bOr .i64 ((keys.2.getD (Int.toNat no) (0, 0)).1) (bShl .i64 (IntKind.i64.wrap r) t34), (keys.2.getD (Int.toNat no) (0, 0)).2))) no s t25 t26 t32 t33 (IntKind.i64.wrap (t34 + 1))).bind fun r => some r
else none
else none
else none
else none
else none
else none
else 
 some (keys.1, keys.2) := Eq.trans (inf_loop_eq (H := H) 209 2 (loopCode Tryz.f209 2) (preds, (p, (t4, (keys, (no, (s, (t25, (t26, (t32, (t33, t34)))))))))) key_impl_SightBy) (by kernel_rfl)
theorem impl_SightBy_eq (p : DProgram) (preds : Bool × List (Bool × List DNode)) : impl_SightBy p preds =
(impl_isSmall p).bind fun r =>
 bif !r then
 some ((true, []), false)
else 
(impl_Program_arePreds p preds 0).bind fun r1 =>
 bif !r1 then
 some ((true, []), false)
else 
(impl_Program_states p).bind fun r2 =>
 bif decide (0 ≤ r2) then
 bif decide (r2 ≤ lim) then
 bif decide (r2 ≤ r2) then
 bif decide (r2 ≤ lim) then
(impl_SightBy_L0 preds p (true, []) (false, (List.replicate (Int.toNat r2) ((0, 0) : DSaid))) ((List.replicate (Int.toNat r2) ((0, 0) : DSaid)).length : Int) 0).bind fun r3 =>
(impl_numbered (r3.1, r3.2)).bind fun r4 =>
 some ((r4.1, r4.2), true)
else none
else none
else none
else none := Eq.trans (inf_call_eq (H := H) 209 (p, preds)) (by kernel_rfl)
theorem impl_isSight_L0_eq (states : Int) (v : DSight) (classes : Int) (t9 : Bool × List Int) (t10 : Int) (t11 : Int) : impl_isSight_L0 states v classes t9 t10 t11 =
 bif decide (t11 < t10) then
 bif decide (0 ≤ t11) then
 bif decide (t11 < (t9.2.length : Int)) then
 bif decide ((t9.2.getD (Int.toNat t11) 0) < 0) then
 some (.inl false)
else 
 bif decide ((t9.2.getD (Int.toNat t11) 0) > classes) then
 some (.inl false)
else 
 bif ((t9.2.getD (Int.toNat t11) 0) == classes) then
(impl_isSight_L0 states v (IntKind.i64.wrap (classes + 1)) t9 t10 (IntKind.i64.wrap (t11 + 1))).bind fun r => some r
else 
(impl_isSight_L0 states v classes t9 t10 (IntKind.i64.wrap (t11 + 1))).bind fun r => some r
else none
else none
else 
 some (.inr ()) := Eq.trans (inf_loop_eq (H := H) 218 0 (loopCode Tryz.f218 0) (states, (v, (classes, (t9, (t10, t11))))) key_impl_isSight) (by kernel_rfl)
theorem impl_isSight_eq (v : DSight) (states : Int) : impl_isSight v states =
(impl_isSight_L0 states v 0 v (v.2.length : Int) 0).bind fun r =>
 match r with
| .inl y =>
 some y
| .inr z =>
 some ((v.2.length : Int) == states) := Eq.trans (inf_call_eq (H := H) 218 (v, states)) (by kernel_rfl)
theorem impl_GoodSight_eq (p : DProgram) (v : DSight) : impl_GoodSight p v =
(impl_isSmall p).bind fun r =>
 bif r then
(impl_Program_states p).bind fun r1 =>
(impl_isSight v r1).bind fun r2 =>
 some r2
else 
 some false := Eq.trans (inf_call_eq (H := H) 142 (p, v)) (by kernel_rfl)
theorem impl_meetOf_L0_eq (b : DSight) (t4 : DSight) (keys : Bool × List DSaid) (t10 : Bool × List Int) (t11 : Int) (t12 : Int) : impl_meetOf_L0 b t4 keys t10 t11 t12 =
 bif decide (t12 < t11) then
 bif decide (0 ≤ t12) then
 bif decide (t12 < (t10.2.length : Int)) then
 bif decide (0 ≤ t12) then
 bif decide (t12 < (b.2.length : Int)) then
 bif decide (keys.2.length + [((t10.2.getD (Int.toNat t12) 0), (b.2.getD (Int.toNat t12) 0))].length ≤ lim) then
(impl_meetOf_L0 b t4 ((keys.1 && false), (keys.2 ++ [((t10.2.getD (Int.toNat t12) 0), (b.2.getD (Int.toNat t12) 0))])) t10 t11 (IntKind.i64.wrap (t12 + 1))).bind fun r => some r
else none
else none
else none
else none
else none
else 
 some (keys.1, keys.2) := Eq.trans (inf_loop_eq (H := H) 210 0 (loopCode Tryz.f210 0) (b, (t4, (keys, (t10, (t11, t12))))) key_impl_meetOf) (by kernel_rfl)
theorem impl_meetOf_eq (a : DSight) (b : DSight) : impl_meetOf a b =
(impl_meetOf_L0 b (true, []) (false, []) a (a.2.length : Int) 0).bind fun r =>
(impl_numbered (r.1, r.2)).bind fun r1 =>
 some (r1.1, r1.2) := Eq.trans (inf_call_eq (H := H) 210 (a, b)) (by kernel_rfl)
theorem impl_SplitBy_eq (p : DProgram) (v : DSight) (t : Bool × List DNode) : impl_SplitBy p v t =
(impl_SightBy p (false, [t])).bind fun r =>
 bif !r.2 then
 some ((true, []), false)
else 
(impl_GoodSight p v).bind fun r1 =>
 bif !r1 then
 some ((true, []), false)
else 
(impl_meetOf v (r.1.1, r.1.2)).bind fun r2 =>
 some ((r2.1, r2.2), true) := Eq.trans (inf_call_eq (H := H) 132 (p, (v, t))) (by kernel_rfl)
theorem impl_sightOf_L0_eq (p : DProgram) (t4 : DSight) (v : Bool × List Int) (t12 : Bool × List (Bool × List DNode)) (t13 : Int) (t14 : Int) : impl_sightOf_L0 p t4 v t12 t13 t14 =
 bif decide (t14 < t13) then
 bif decide (0 ≤ t14) then
 bif decide (t14 < (t12.2.length : Int)) then
(impl_SplitBy p (v.1, v.2) (t12.2.getD (Int.toNat t14) (true, []))).bind fun r =>
(impl_sightOf_L0 p t4 (r.1.1, r.1.2) t12 t13 (IntKind.i64.wrap (t14 + 1))).bind fun r => some r
else none
else none
else 
 some (v.1, v.2) := Eq.trans (inf_loop_eq (H := H) 65 0 (loopCode Tryz.f65 0) (p, (t4, (v, (t12, (t13, t14))))) key_impl_sightOf) (by kernel_rfl)
theorem impl_sightOf_eq (p : DProgram) (preds : Bool × List (Bool × List DNode)) : impl_sightOf p preds =
(impl_Program_states p).bind fun r =>
 bif decide (0 ≤ r) then
 bif decide (r ≤ lim) then
 bif decide (r ≤ r) then
 bif decide (r ≤ lim) then
(impl_sightOf_L0 p (true, []) (false, (List.replicate (Int.toNat r) (0 : Int))) preds (preds.2.length : Int) 0).bind fun r1 =>
 some (r1.1, r1.2)
else none
else none
else none
else none := Eq.trans (inf_call_eq (H := H) 65 (p, preds)) (by kernel_rfl)
theorem impl_SightFor_eq (q : DQuestion) (preds : Bool × List (Bool × List DNode)) : impl_SightFor q preds =
(impl_GoodQuestion q).bind fun r =>
 bif !r then
 some ((true, []), false)
else 
(impl_Program_arePreds q.1 preds 0).bind fun r1 =>
 bif !r1 then
 some ((true, []), false)
else 
(slices_Concat_NodeS (false, [q.2.1, preds])).bind fun r2 =>
(impl_sightOf q.1 (r2.1, r2.2)).bind fun r3 =>
 some ((r3.1, r3.2), true) := Eq.trans (inf_call_eq (H := H) 16 (q, preds)) (by kernel_rfl)
theorem laws_eqIntS_L0_eq (a : Bool × List Int) (b : Bool × List Int) (i : Int) : laws_eqIntS_L0 a b i =
 bif decide (i < (a.2.length : Int)) then
 bif decide (0 ≤ i) then
 bif decide (i < (a.2.length : Int)) then
 bif decide (0 ≤ i) then
 bif decide (i < (b.2.length : Int)) then
 bif ((a.2.getD (Int.toNat i) 0) != (b.2.getD (Int.toNat i) 0)) then
 some (.inl false)
else 
(laws_eqIntS_L0 a b (IntKind.i64.wrap (i + 1))).bind fun r => some r
else none
else none
else none
else none
else 
 some (.inr ()) := Eq.trans (inf_loop_eq (H := H) 31 0 (loopCode Tryz.f31 0) (a, (b, i)) key_laws_eqIntS) (by kernel_rfl)
theorem laws_eqIntS_eq (a : Bool × List Int) (b : Bool × List Int) : laws_eqIntS a b =
 bif ((a.2.length : Int) != (b.2.length : Int)) then
 some false
else 
(laws_eqIntS_L0 a b 0).bind fun r =>
 match r with
| .inl y =>
 some y
| .inr z =>
 some true := Eq.trans (inf_call_eq (H := H) 31 (a, b)) (by kernel_rfl)
theorem laws_eqSight_eq (a : DSight) (b : DSight) : laws_eqSight a b =
(laws_eqIntS a b).bind fun r =>
 bif !r then
 some false
else 
 some true := Eq.trans (inf_call_eq (H := H) 17 (a, b)) (by kernel_rfl)
theorem laws_eqNode_eq (a : DNode) (b : DNode) : laws_eqNode a b =
 bif (a.1 != b.1) then
 some false
else 
 bif (a.2 != b.2) then
 some false
else 
 some true := Eq.trans (inf_call_eq (H := H) 92 (a, b)) (by kernel_rfl)
theorem laws_eqNodeS_L0_eq (a : Bool × List DNode) (b : Bool × List DNode) (i : Int) : laws_eqNodeS_L0 a b i =
 bif decide (i < (a.2.length : Int)) then
 bif decide (0 ≤ i) then
 bif decide (i < (a.2.length : Int)) then
 bif decide (0 ≤ i) then
 bif decide (i < (b.2.length : Int)) then
(laws_eqNode (a.2.getD (Int.toNat i) (0, 0)) (b.2.getD (Int.toNat i) (0, 0))).bind fun r =>
 bif !r then
 some (.inl false)
else 
(laws_eqNodeS_L0 a b (IntKind.i64.wrap (i + 1))).bind fun r => some r
else none
else none
else none
else none
else 
 some (.inr ()) := Eq.trans (inf_loop_eq (H := H) 43 0 (loopCode Tryz.f43 0) (a, (b, i)) key_laws_eqNodeS) (by kernel_rfl)
theorem laws_eqNodeS_eq (a : Bool × List DNode) (b : Bool × List DNode) : laws_eqNodeS a b =
 bif ((a.2.length : Int) != (b.2.length : Int)) then
 some false
else 
(laws_eqNodeS_L0 a b 0).bind fun r =>
 match r with
| .inl y =>
 some y
| .inr z =>
 some true := Eq.trans (inf_call_eq (H := H) 43 (a, b)) (by kernel_rfl)
theorem laws_eqChange_eq (a : DChange) (b : DChange) : laws_eqChange a b =
 bif (a.1 != b.1) then
 some false
else 
(laws_eqNodeS a.2 b.2).bind fun r =>
 bif !r then
 some false
else 
 some true := Eq.trans (inf_call_eq (H := H) 291 (a, b)) (by kernel_rfl)
theorem laws_eqChangeS_L0_eq (a : Bool × List DChange) (b : Bool × List DChange) (i : Int) : laws_eqChangeS_L0 a b i =
 bif decide (i < (a.2.length : Int)) then
 bif decide (0 ≤ i) then
 bif decide (i < (a.2.length : Int)) then
 bif decide (0 ≤ i) then
 bif decide (i < (b.2.length : Int)) then
(laws_eqChange (a.2.getD (Int.toNat i) (0, (true, []))) (b.2.getD (Int.toNat i) (0, (true, [])))).bind fun r =>
 bif !r then
 some (.inl false)
else 
(laws_eqChangeS_L0 a b (IntKind.i64.wrap (i + 1))).bind fun r => some r
else none
else none
else none
else none
else 
 some (.inr ()) := Eq.trans (inf_loop_eq (H := H) 225 0 (loopCode Tryz.f225 0) (a, (b, i)) key_laws_eqChangeS) (by kernel_rfl)
theorem laws_eqChangeS_eq (a : Bool × List DChange) (b : Bool × List DChange) : laws_eqChangeS a b =
 bif ((a.2.length : Int) != (b.2.length : Int)) then
 some false
else 
(laws_eqChangeS_L0 a b 0).bind fun r =>
 match r with
| .inl y =>
 some y
| .inr z =>
 some true := Eq.trans (inf_call_eq (H := H) 225 (a, b)) (by kernel_rfl)
theorem laws_eqCommand_eq (a : DCommand) (b : DCommand) : laws_eqCommand a b =
(laws_eqNodeS a.1 b.1).bind fun r =>
 bif !r then
 some false
else 
(laws_eqChangeS a.2 b.2).bind fun r1 =>
 bif !r1 then
 some false
else 
 some true := Eq.trans (inf_call_eq (H := H) 154 (a, b)) (by kernel_rfl)
theorem laws_eqCommandS_L0_eq (a : Bool × List DCommand) (b : Bool × List DCommand) (i : Int) : laws_eqCommandS_L0 a b i =
 bif decide (i < (a.2.length : Int)) then
 bif decide (0 ≤ i) then
 bif decide (i < (a.2.length : Int)) then
 bif decide (0 ≤ i) then
 bif decide (i < (b.2.length : Int)) then
(laws_eqCommand (a.2.getD (Int.toNat i) ((true, []), (true, []))) (b.2.getD (Int.toNat i) ((true, []), (true, [])))).bind fun r =>
 bif !r then
 some (.inl false)
else 
(laws_eqCommandS_L0 a b (IntKind.i64.wrap (i + 1))).bind fun r => some r
else none
else none
else none
else none
else 
 some (.inr ()) := Eq.trans (inf_loop_eq (H := H) 78 0 (loopCode Tryz.f78 0) (a, (b, i)) key_laws_eqCommandS) (by kernel_rfl)
theorem laws_eqCommandS_eq (a : Bool × List DCommand) (b : Bool × List DCommand) : laws_eqCommandS a b =
 bif ((a.2.length : Int) != (b.2.length : Int)) then
 some false
else 
(laws_eqCommandS_L0 a b 0).bind fun r =>
 match r with
| .inl y =>
 some y
| .inr z =>
 some true := Eq.trans (inf_call_eq (H := H) 78 (a, b)) (by kernel_rfl)
theorem laws_eqProgram_eq (a : DProgram) (b : DProgram) : laws_eqProgram a b =
 bif (a.1 != b.1) then
 some false
else 
 bif (a.2.1 != b.2.1) then
 some false
else 
(laws_eqNodeS a.2.2.1 b.2.2.1).bind fun r =>
 bif !r then
 some false
else 
(laws_eqCommandS a.2.2.2 b.2.2.2).bind fun r1 =>
 bif !r1 then
 some false
else 
 some true := Eq.trans (inf_call_eq (H := H) 32 (a, b)) (by kernel_rfl)
theorem laws_eqNodeSS_L0_eq (a : Bool × List (Bool × List DNode)) (b : Bool × List (Bool × List DNode)) (i : Int) : laws_eqNodeSS_L0 a b i =
 bif decide (i < (a.2.length : Int)) then
 bif decide (0 ≤ i) then
 bif decide (i < (a.2.length : Int)) then
 bif decide (0 ≤ i) then
 bif decide (i < (b.2.length : Int)) then
(laws_eqNodeS (a.2.getD (Int.toNat i) (true, [])) (b.2.getD (Int.toNat i) (true, []))).bind fun r =>
 bif !r then
 some (.inl false)
else 
(laws_eqNodeSS_L0 a b (IntKind.i64.wrap (i + 1))).bind fun r => some r
else none
else none
else none
else none
else 
 some (.inr ()) := Eq.trans (inf_loop_eq (H := H) 19 0 (loopCode Tryz.f19 0) (a, (b, i)) key_laws_eqNodeSS) (by kernel_rfl)
theorem laws_eqNodeSS_eq (a : Bool × List (Bool × List DNode)) (b : Bool × List (Bool × List DNode)) : laws_eqNodeSS a b =
 bif ((a.2.length : Int) != (b.2.length : Int)) then
 some false
else 
(laws_eqNodeSS_L0 a b 0).bind fun r =>
 match r with
| .inl y =>
 some y
| .inr z =>
 some true := Eq.trans (inf_call_eq (H := H) 19 (a, b)) (by kernel_rfl)
theorem laws_eqSaid_eq (a : DSaid) (b : DSaid) : laws_eqSaid a b =
 bif (a.1 != b.1) then
 some false
else 
 bif (a.2 != b.2) then
 some false
else 
 some true := Eq.trans (inf_call_eq (H := H) 134 (a, b)) (by kernel_rfl)
theorem laws_eqSaidS_L0_eq (a : Bool × List DSaid) (b : Bool × List DSaid) (i : Int) : laws_eqSaidS_L0 a b i =
 bif decide (i < (a.2.length : Int)) then
 bif decide (0 ≤ i) then
 bif decide (i < (a.2.length : Int)) then
 bif decide (0 ≤ i) then
 bif decide (i < (b.2.length : Int)) then
(laws_eqSaid (a.2.getD (Int.toNat i) (0, 0)) (b.2.getD (Int.toNat i) (0, 0))).bind fun r =>
 bif !r then
 some (.inl false)
else 
(laws_eqSaidS_L0 a b (IntKind.i64.wrap (i + 1))).bind fun r => some r
else none
else none
else none
else none
else 
 some (.inr ()) := Eq.trans (inf_loop_eq (H := H) 67 0 (loopCode Tryz.f67 0) (a, (b, i)) key_laws_eqSaidS) (by kernel_rfl)
theorem laws_eqSaidS_eq (a : Bool × List DSaid) (b : Bool × List DSaid) : laws_eqSaidS a b =
 bif ((a.2.length : Int) != (b.2.length : Int)) then
 some false
else 
(laws_eqSaidS_L0 a b 0).bind fun r =>
 match r with
| .inl y =>
 some y
| .inr z =>
 some true := Eq.trans (inf_call_eq (H := H) 67 (a, b)) (by kernel_rfl)
theorem laws_eqQuestion_eq (a : DQuestion) (b : DQuestion) : laws_eqQuestion a b =
(laws_eqProgram a.1 b.1).bind fun r =>
 bif !r then
 some false
else 
(laws_eqNodeSS a.2.1 b.2.1).bind fun r1 =>
 bif !r1 then
 some false
else 
(laws_eqSaidS a.2.2 b.2.2).bind fun r2 =>
 bif !r2 then
 some false
else 
 some true := Eq.trans (inf_call_eq (H := H) 18 (a, b)) (by kernel_rfl)
theorem laws_markNodeS_L0_eq (a : Bool × List DNode) (k_ : Int) (i : Int) : laws_markNodeS_L0 a k_ i =
 bif decide (i < (a.2.length : Int)) then
 bif decide (0 ≤ i) then
 bif decide (i < (a.2.length : Int)) then
 bif decide (0 ≤ i) then
 bif decide (i < ((a.2.set (Int.toNat i) (k_, (a.2.getD (Int.toNat i) (0, 0)).2)).length : Int)) then
(laws_markNodeS_L0 (a.1, ((a.2.set (Int.toNat i) (k_, (a.2.getD (Int.toNat i) (0, 0)).2)).set (Int.toNat i) (((a.2.set (Int.toNat i) (k_, (a.2.getD (Int.toNat i) (0, 0)).2)).getD (Int.toNat i) (0, 0)).1, IntKind.u64.wrap (IntKind.i64.wrap (k_ + 1))))) (IntKind.i64.wrap ((IntKind.i64.wrap (k_ + 1)) + 1)) (IntKind.i64.wrap (i + 1))).bind fun r => some r
else none
else none
else none
else none
else 
 some ((a.1, a.2), k_) := Eq.trans (inf_loop_eq (H := H) 44 0 (loopCode Tryz.f44 0) (a, (k_, i)) key_laws_markNodeS) (by kernel_rfl)
theorem laws_markNodeS_eq (a : Bool × List DNode) (k_ : Int) : laws_markNodeS a k_ =
(laws_markNodeS_L0 (a.1, a.2) k_ 0).bind fun r =>
 some ((r.1.1, r.1.2), r.2) := Eq.trans (inf_call_eq (H := H) 44 (a, k_)) (by kernel_rfl)
theorem laws_markChangeS_L0_eq (a : Bool × List DChange) (k_ : Int) (i : Int) : laws_markChangeS_L0 a k_ i =
 bif decide (i < (a.2.length : Int)) then
 bif decide (0 ≤ i) then
 bif decide (i < (a.2.length : Int)) then
 bif decide (0 ≤ i) then
 bif decide (i < ((a.2.set (Int.toNat i) (k_, (a.2.getD (Int.toNat i) (0, (true, []))).2)).length : Int)) then
(laws_markNodeS ((((a.2.set (Int.toNat i) (k_, (a.2.getD (Int.toNat i) (0, (true, []))).2)).getD (Int.toNat i) (0, (true, []))).2).1, (((a.2.set (Int.toNat i) (k_, (a.2.getD (Int.toNat i) (0, (true, []))).2)).getD (Int.toNat i) (0, (true, []))).2).2) (IntKind.i64.wrap (k_ + 1))).bind fun r =>
(laws_markChangeS_L0 (a.1, ((a.2.set (Int.toNat i) (k_, (a.2.getD (Int.toNat i) (0, (true, []))).2)).set (Int.toNat i) (((a.2.set (Int.toNat i) (k_, (a.2.getD (Int.toNat i) (0, (true, []))).2)).getD (Int.toNat i) (0, (true, []))).1, (r.1.1, r.1.2)))) r.2 (IntKind.i64.wrap (i + 1))).bind fun r => some r
else none
else none
else none
else none
else 
 some ((a.1, a.2), k_) := Eq.trans (inf_loop_eq (H := H) 155 0 (loopCode Tryz.f155 0) (a, (k_, i)) key_laws_markChangeS) (by kernel_rfl)
theorem laws_markChangeS_eq (a : Bool × List DChange) (k_ : Int) : laws_markChangeS a k_ =
(laws_markChangeS_L0 (a.1, a.2) k_ 0).bind fun r =>
 some ((r.1.1, r.1.2), r.2) := Eq.trans (inf_call_eq (H := H) 155 (a, k_)) (by kernel_rfl)
theorem laws_markCommandS_L0_eq (a : Bool × List DCommand) (k_ : Int) (i : Int) : laws_markCommandS_L0 a k_ i =
 bif decide (i < (a.2.length : Int)) then
 bif decide (0 ≤ i) then
 bif decide (i < (a.2.length : Int)) then
(laws_markNodeS (((a.2.getD (Int.toNat i) ((true, []), (true, []))).1).1, ((a.2.getD (Int.toNat i) ((true, []), (true, []))).1).2) k_).bind fun r =>
 bif decide (0 ≤ i) then
 bif decide (i < (a.2.length : Int)) then
(laws_markChangeS ((((a.2.set (Int.toNat i) ((r.1.1, r.1.2), (a.2.getD (Int.toNat i) ((true, []), (true, []))).2)).getD (Int.toNat i) ((true, []), (true, []))).2).1, (((a.2.set (Int.toNat i) ((r.1.1, r.1.2), (a.2.getD (Int.toNat i) ((true, []), (true, []))).2)).getD (Int.toNat i) ((true, []), (true, []))).2).2) r.2).bind fun r1 =>
(laws_markCommandS_L0 (a.1, ((a.2.set (Int.toNat i) ((r.1.1, r.1.2), (a.2.getD (Int.toNat i) ((true, []), (true, []))).2)).set (Int.toNat i) (((a.2.set (Int.toNat i) ((r.1.1, r.1.2), (a.2.getD (Int.toNat i) ((true, []), (true, []))).2)).getD (Int.toNat i) ((true, []), (true, []))).1, (r1.1.1, r1.1.2)))) r1.2 (IntKind.i64.wrap (i + 1))).bind fun r => some r
else none
else none
else none
else none
else 
 some ((a.1, a.2), k_) := Eq.trans (inf_loop_eq (H := H) 79 0 (loopCode Tryz.f79 0) (a, (k_, i)) key_laws_markCommandS) (by kernel_rfl)
theorem laws_markCommandS_eq (a : Bool × List DCommand) (k_ : Int) : laws_markCommandS a k_ =
(laws_markCommandS_L0 (a.1, a.2) k_ 0).bind fun r =>
 some ((r.1.1, r.1.2), r.2) := Eq.trans (inf_call_eq (H := H) 79 (a, k_)) (by kernel_rfl)
theorem laws_markProgram_eq (a0_0 : Int) (a0_1 : Int) (a0_2 : Bool × List DNode) (a0_3 : Bool × List DCommand) (k_ : Int) : laws_markProgram a0_0 a0_1 a0_2 a0_3 k_ =
(laws_markNodeS (a0_2.1, a0_2.2) k_).bind fun r =>
(laws_markCommandS (a0_3.1, a0_3.2) r.2).bind fun r1 =>
 some ((r.1.1, r.1.2), ((r1.1.1, r1.1.2), r1.2)) := Eq.trans (inf_call_eq (H := H) 33 (a0_0, (a0_1, (a0_2, (a0_3, k_))))) (by kernel_rfl)
theorem laws_markNodeSS_L0_eq (a : Bool × List (Bool × List DNode)) (k_ : Int) (i : Int) : laws_markNodeSS_L0 a k_ i =
 bif decide (i < (a.2.length : Int)) then
 bif decide (0 ≤ i) then
 bif decide (i < (a.2.length : Int)) then
(laws_markNodeS ((a.2.getD (Int.toNat i) (true, [])).1, (a.2.getD (Int.toNat i) (true, [])).2) k_).bind fun r =>
(laws_markNodeSS_L0 (a.1, (a.2.set (Int.toNat i) (r.1.1, r.1.2))) r.2 (IntKind.i64.wrap (i + 1))).bind fun r => some r
else none
else none
else 
 some ((a.1, a.2), k_) := Eq.trans (inf_loop_eq (H := H) 21 0 (loopCode Tryz.f21 0) (a, (k_, i)) key_laws_markNodeSS) (by kernel_rfl)
theorem laws_markNodeSS_eq (a : Bool × List (Bool × List DNode)) (k_ : Int) : laws_markNodeSS a k_ =
(laws_markNodeSS_L0 (a.1, a.2) k_ 0).bind fun r =>
 some ((r.1.1, r.1.2), r.2) := Eq.trans (inf_call_eq (H := H) 21 (a, k_)) (by kernel_rfl)
theorem laws_markSaidS_L0_eq (a : Bool × List DSaid) (k_ : Int) (i : Int) : laws_markSaidS_L0 a k_ i =
 bif decide (i < (a.2.length : Int)) then
 bif decide (0 ≤ i) then
 bif decide (i < (a.2.length : Int)) then
 bif decide (0 ≤ i) then
 bif decide (i < ((a.2.set (Int.toNat i) (k_, (a.2.getD (Int.toNat i) (0, 0)).2)).length : Int)) then
(laws_markSaidS_L0 (a.1, ((a.2.set (Int.toNat i) (k_, (a.2.getD (Int.toNat i) (0, 0)).2)).set (Int.toNat i) (((a.2.set (Int.toNat i) (k_, (a.2.getD (Int.toNat i) (0, 0)).2)).getD (Int.toNat i) (0, 0)).1, IntKind.i64.wrap (k_ + 1)))) (IntKind.i64.wrap ((IntKind.i64.wrap (k_ + 1)) + 1)) (IntKind.i64.wrap (i + 1))).bind fun r => some r
else none
else none
else none
else none
else 
 some ((a.1, a.2), k_) := Eq.trans (inf_loop_eq (H := H) 68 0 (loopCode Tryz.f68 0) (a, (k_, i)) key_laws_markSaidS) (by kernel_rfl)
theorem laws_markSaidS_eq (a : Bool × List DSaid) (k_ : Int) : laws_markSaidS a k_ =
(laws_markSaidS_L0 (a.1, a.2) k_ 0).bind fun r =>
 some ((r.1.1, r.1.2), r.2) := Eq.trans (inf_call_eq (H := H) 68 (a, k_)) (by kernel_rfl)
theorem laws_markQuestion_eq (a0_0 : Int) (a0_1 : Int) (a0_2 : Bool × List DNode) (a0_3 : Bool × List DCommand) (a0_4 : Bool × List (Bool × List DNode)) (a0_5 : Bool × List DSaid) (k_ : Int) : laws_markQuestion a0_0 a0_1 a0_2 a0_3 a0_4 a0_5 k_ =
(laws_markProgram a0_0 a0_1 (a0_2.1, a0_2.2) (a0_3.1, a0_3.2) k_).bind fun r =>
(laws_markNodeSS (a0_4.1, a0_4.2) r.2.2).bind fun r1 =>
(laws_markSaidS (a0_5.1, a0_5.2) r1.2).bind fun r2 =>
 some ((r.1.1, r.1.2), ((r.2.1.1, r.2.1.2), ((r1.1.1, r1.1.2), ((r2.1.1, r2.1.2), r2.2)))) := Eq.trans (inf_call_eq (H := H) 20 (a0_0, (a0_1, (a0_2, (a0_3, (a0_4, (a0_5, k_))))))) (by kernel_rfl)
theorem laws_markIntS_L0_eq (a : Bool × List Int) (k_ : Int) (i : Int) : laws_markIntS_L0 a k_ i =
 bif decide (i < (a.2.length : Int)) then
 bif decide (0 ≤ i) then
 bif decide (i < (a.2.length : Int)) then
(laws_markIntS_L0 (a.1, (a.2.set (Int.toNat i) k_)) (IntKind.i64.wrap (k_ + 1)) (IntKind.i64.wrap (i + 1))).bind fun r => some r
else none
else none
else 
 some ((a.1, a.2), k_) := Eq.trans (inf_loop_eq (H := H) 34 0 (loopCode Tryz.f34 0) (a, (k_, i)) key_laws_markIntS) (by kernel_rfl)
theorem laws_markIntS_eq (a : Bool × List Int) (k_ : Int) : laws_markIntS a k_ =
(laws_markIntS_L0 (a.1, a.2) k_ 0).bind fun r =>
 some ((r.1.1, r.1.2), r.2) := Eq.trans (inf_call_eq (H := H) 34 (a, k_)) (by kernel_rfl)
theorem laws_markSight_eq (a : Bool × List Int) (k_ : Int) : laws_markSight a k_ =
(laws_markIntS (a.1, a.2) k_).bind fun r =>
 some ((r.1.1, r.1.2), r.2) := Eq.trans (inf_call_eq (H := H) 22 (a, k_)) (by kernel_rfl)
theorem laws_heldIntS_L0_eq (a : Bool × List Int) (k_ : Int) (i : Int) : laws_heldIntS_L0 a k_ i =
 bif decide (i < (a.2.length : Int)) then
 bif decide (0 ≤ i) then
 bif decide (i < (a.2.length : Int)) then
 bif ((a.2.getD (Int.toNat i) 0) != k_) then
 some (.inl (-1))
else 
(laws_heldIntS_L0 a (IntKind.i64.wrap (k_ + 1)) (IntKind.i64.wrap (i + 1))).bind fun r => some r
else none
else none
else 
 some (.inr k_) := Eq.trans (inf_loop_eq (H := H) 35 0 (loopCode Tryz.f35 0) (a, (k_, i)) key_laws_heldIntS) (by kernel_rfl)
theorem laws_heldIntS_eq (a : Bool × List Int) (k_ : Int) : laws_heldIntS a k_ =
(laws_heldIntS_L0 a k_ 0).bind fun r =>
 match r with
| .inl y =>
 some y
| .inr z =>
 some z := Eq.trans (inf_call_eq (H := H) 35 (a, k_)) (by kernel_rfl)
theorem laws_heldSight_eq (a : DSight) (k_ : Int) : laws_heldSight a k_ =
(laws_heldIntS a k_).bind fun r =>
 bif decide (r < 0) then
 some (-1)
else 
 some r := Eq.trans (inf_call_eq (H := H) 23 (a, k_)) (by kernel_rfl)
theorem laws_FnExactSightFor_eq (aQ : DQuestion) (aPreds : Bool × List (Bool × List DNode)) : laws_FnExactSightFor aQ aPreds =
(laws_szQuestion aQ 1048576).bind fun r =>
 bif decide (r < 0) then
 some true
else 
(laws_szNodeSS aPreds r).bind fun r1 =>
 bif decide (r1 < 0) then
 some true
else 
(laws_toQuestion aQ).bind fun r2 =>
(laws_toNodeSS aPreds).bind fun r3 =>
(spec_SightFor ((r2.1, (r2.2.1, ((r2.2.2.1.1, r2.2.2.1.2), (r2.2.2.2.1.1, r2.2.2.2.1.2)))), ((r2.2.2.2.2.1.1, r2.2.2.2.2.1.2), (r2.2.2.2.2.2.1, r2.2.2.2.2.2.2))) (r3.1, r3.2)).bind fun r4 =>
(laws_toQuestion aQ).bind fun r5 =>
(laws_toNodeSS aPreds).bind fun r6 =>
(impl_SightFor ((r5.1, (r5.2.1, ((r5.2.2.1.1, r5.2.2.1.2), (r5.2.2.2.1.1, r5.2.2.2.1.2)))), ((r5.2.2.2.2.1.1, r5.2.2.2.2.1.2), (r5.2.2.2.2.2.1, r5.2.2.2.2.2.2))) (r6.1, r6.2)).bind fun r7 =>
(laws_eqSight (r7.1.1, r7.1.2) (r4.1.1, r4.1.2)).bind fun r8 =>
 bif !r8 then
 some false
else 
 bif !(r7.2 == r4.2) then
 some false
else 
(laws_toQuestion aQ).bind fun r9 =>
(laws_eqQuestion ((r5.1, (r5.2.1, ((r5.2.2.1.1, r5.2.2.1.2), (r5.2.2.2.1.1, r5.2.2.2.1.2)))), ((r5.2.2.2.2.1.1, r5.2.2.2.2.1.2), (r5.2.2.2.2.2.1, r5.2.2.2.2.2.2))) ((r9.1, (r9.2.1, ((r9.2.2.1.1, r9.2.2.1.2), (r9.2.2.2.1.1, r9.2.2.2.1.2)))), ((r9.2.2.2.2.1.1, r9.2.2.2.2.1.2), (r9.2.2.2.2.2.1, r9.2.2.2.2.2.2)))).bind fun r10 =>
 bif !r10 then
 some false
else 
(laws_toNodeSS aPreds).bind fun r11 =>
(laws_eqNodeSS (r6.1, r6.2) (r11.1, r11.2)).bind fun r12 =>
 bif !r12 then
 some false
else 
(laws_markQuestion r5.1 r5.2.1 (r5.2.2.1.1, r5.2.2.1.2) (r5.2.2.2.1.1, r5.2.2.2.1.2) (r5.2.2.2.2.1.1, r5.2.2.2.2.1.2) (r5.2.2.2.2.2.1, r5.2.2.2.2.2.2) 1).bind fun r13 =>
(laws_markNodeSS (r6.1, r6.2) r13.2.2.2.2).bind fun r14 =>
 bif decide (r14.2 < 0) then
 some false
else 
(laws_eqSight (r7.1.1, r7.1.2) (r4.1.1, r4.1.2)).bind fun r15 =>
 bif !r15 then
 some false
else 
 bif !(r7.2 == r4.2) then
 some false
else 
(laws_markSight (r7.1.1, r7.1.2) 1).bind fun r16 =>
(laws_heldSight (r16.1.1, r16.1.2) 1).bind fun r17 =>
 bif decide (r17 < 0) then
 some false
else 
 bif (r17 != r16.2) then
 some false
else 
(laws_toQuestion aQ).bind fun r18 =>
(laws_toNodeSS aPreds).bind fun r19 =>
(impl_SightFor ((r18.1, (r18.2.1, ((r18.2.2.1.1, r18.2.2.1.2), (r18.2.2.2.1.1, r18.2.2.2.1.2)))), ((r18.2.2.2.2.1.1, r18.2.2.2.2.1.2), (r18.2.2.2.2.2.1, r18.2.2.2.2.2.2))) (r19.1, r19.2)).bind fun r20 =>
(laws_eqSight (r20.1.1, r20.1.2) (r4.1.1, r4.1.2)).bind fun r21 =>
 bif !r21 then
 some false
else 
 bif !(r20.2 == r4.2) then
 some false
else 
(laws_heldSight (r16.1.1, r16.1.2) 1).bind fun r22 =>
 bif decide (r22 < 0) then
 some false
else 
 bif (r22 != r16.2) then
 some false
else 
 some true := Eq.trans (inf_call_eq (H := H) 3 (aQ, aPreds)) (by kernel_rfl)
theorem fit : Fit Tryz.prog H := fit_of (exts := extsL) (tys := tysL) (cells := cellsL) (keys := keysL) (mtys := mtysL) rfl rfl rfl rfl rfl (by kernel_rfl) (by kernel_rfl) (by kernel_rfl) ⟨⟨Tryz.func38, by kernel_rfl, by kernel_rfl⟩, ⟨Tryz.func287, by kernel_rfl, by kernel_rfl⟩, ⟨Tryz.func211, by kernel_rfl, by kernel_rfl⟩, ⟨Tryz.func135, by kernel_rfl, by kernel_rfl⟩, ⟨Tryz.func69, by kernel_rfl, by kernel_rfl⟩, ⟨Tryz.func24, by kernel_rfl, by kernel_rfl⟩, ⟨Tryz.func12, by kernel_rfl, by kernel_rfl⟩, ⟨Tryz.func58, by kernel_rfl, by kernel_rfl⟩, ⟨Tryz.func11, by kernel_rfl, by kernel_rfl⟩, ⟨Tryz.func89, by kernel_rfl, by kernel_rfl⟩, ⟨Tryz.func40, by kernel_rfl, by kernel_rfl⟩, ⟨Tryz.func288, by kernel_rfl, by kernel_rfl⟩, ⟨Tryz.func217, by kernel_rfl, by kernel_rfl⟩, ⟨Tryz.func141, by kernel_rfl, by kernel_rfl⟩, ⟨Tryz.func75, by kernel_rfl, by kernel_rfl⟩, ⟨Tryz.func27, by kernel_rfl, by kernel_rfl⟩, ⟨Tryz.func15, by kernel_rfl, by kernel_rfl⟩, ⟨Tryz.func124, by kernel_rfl, by kernel_rfl⟩, ⟨Tryz.func62, by kernel_rfl, by kernel_rfl⟩, ⟨Tryz.func14, by kernel_rfl, by kernel_rfl⟩, ⟨Tryz.func116, by kernel_rfl, by kernel_rfl⟩, ⟨Tryz.func272, by kernel_rfl, by kernel_rfl⟩, ⟨Tryz.func273, by kernel_rfl, by kernel_rfl⟩, ⟨Tryz.func307, by kernel_rfl, by kernel_rfl⟩, ⟨Tryz.func330, by kernel_rfl, by kernel_rfl⟩, ⟨Tryz.func274, by kernel_rfl, by kernel_rfl⟩, ⟨Tryz.func203, by kernel_rfl, by kernel_rfl⟩, ⟨Tryz.func123, by kernel_rfl, by kernel_rfl⟩, ⟨Tryz.func269, by kernel_rfl, by kernel_rfl⟩, ⟨Tryz.func200, by kernel_rfl, by kernel_rfl⟩, ⟨Tryz.func121, by kernel_rfl, by kernel_rfl⟩, ⟨Tryz.func270, by kernel_rfl, by kernel_rfl⟩, ⟨Tryz.func271, by kernel_rfl, by kernel_rfl⟩, ⟨Tryz.func201, by kernel_rfl, by kernel_rfl⟩, ⟨Tryz.func213, by kernel_rfl, by kernel_rfl⟩, ⟨Tryz.func202, by kernel_rfl, by kernel_rfl⟩, ⟨Tryz.func122, by kernel_rfl, by kernel_rfl⟩, ⟨Tryz.func59, by kernel_rfl, by kernel_rfl⟩, ⟨Tryz.func60, by kernel_rfl, by kernel_rfl⟩, ⟨Tryz.func159, by kernel_rfl, by kernel_rfl⟩, ⟨Tryz.func176, by kernel_rfl, by kernel_rfl⟩, ⟨Tryz.func309, by kernel_rfl, by kernel_rfl⟩, ⟨Tryz.func369, by kernel_rfl, by kernel_rfl⟩, ⟨Tryz.func343, by kernel_rfl, by kernel_rfl⟩, ⟨Tryz.func344, by kernel_rfl, by kernel_rfl⟩, ⟨Tryz.func345, by kernel_rfl, by kernel_rfl⟩, ⟨Tryz.func346, by kernel_rfl, by kernel_rfl⟩, ⟨Tryz.func308, by kernel_rfl, by kernel_rfl⟩, ⟨Tryz.func240, by kernel_rfl, by kernel_rfl⟩, ⟨Tryz.func175, by kernel_rfl, by kernel_rfl⟩, ⟨Tryz.func99, by kernel_rfl, by kernel_rfl⟩, ⟨Tryz.func98, by kernel_rfl, by kernel_rfl⟩, ⟨Tryz.func198, by kernel_rfl, by kernel_rfl⟩, ⟨Tryz.func118, by kernel_rfl, by kernel_rfl⟩, ⟨Tryz.func85, by kernel_rfl, by kernel_rfl⟩, ⟨Tryz.func86, by kernel_rfl, by kernel_rfl⟩, ⟨Tryz.func61, by kernel_rfl, by kernel_rfl⟩, ⟨Tryz.func13, by kernel_rfl, by kernel_rfl⟩, ⟨Tryz.func275, by kernel_rfl, by kernel_rfl⟩, ⟨Tryz.func276, by kernel_rfl, by kernel_rfl⟩, ⟨Tryz.func334, by kernel_rfl, by kernel_rfl⟩, ⟨Tryz.func183, by kernel_rfl, by kernel_rfl⟩, ⟨Tryz.func364, by kernel_rfl, by kernel_rfl⟩, ⟨Tryz.func335, by kernel_rfl, by kernel_rfl⟩, ⟨Tryz.func336, by kernel_rfl, by kernel_rfl⟩, ⟨Tryz.func152, by kernel_rfl, by kernel_rfl⟩, ⟨Tryz.func144, by kernel_rfl, by kernel_rfl⟩, ⟨Tryz.func284, by kernel_rfl, by kernel_rfl⟩, ⟨Tryz.func285, by kernel_rfl, by kernel_rfl⟩, ⟨Tryz.func208, by kernel_rfl, by kernel_rfl⟩, ⟨Tryz.func129, by kernel_rfl, by kernel_rfl⟩, ⟨Tryz.func279, by kernel_rfl, by kernel_rfl⟩, ⟨Tryz.func278, by kernel_rfl, by kernel_rfl⟩, ⟨Tryz.func331, by kernel_rfl, by kernel_rfl⟩, ⟨Tryz.func277, by kernel_rfl, by kernel_rfl⟩, ⟨Tryz.func204, by kernel_rfl, by kernel_rfl⟩, ⟨Tryz.func125, by kernel_rfl, by kernel_rfl⟩, ⟨Tryz.func185, by kernel_rfl, by kernel_rfl⟩, ⟨Tryz.func280, by kernel_rfl, by kernel_rfl⟩, ⟨Tryz.func205, by kernel_rfl, by kernel_rfl⟩, ⟨Tryz.func158, by kernel_rfl, by kernel_rfl⟩, ⟨Tryz.func281, by kernel_rfl, by kernel_rfl⟩, ⟨Tryz.func282, by kernel_rfl, by kernel_rfl⟩, ⟨Tryz.func283, by kernel_rfl, by kernel_rfl⟩, ⟨Tryz.func206, by kernel_rfl, by kernel_rfl⟩, ⟨Tryz.func126, by kernel_rfl, by kernel_rfl⟩, ⟨Tryz.func128, by kernel_rfl, by kernel_rfl⟩, ⟨Tryz.func207, by kernel_rfl, by kernel_rfl⟩, ⟨Tryz.func127, by kernel_rfl, by kernel_rfl⟩, ⟨Tryz.func63, by kernel_rfl, by kernel_rfl⟩, ⟨Tryz.func130, by kernel_rfl, by kernel_rfl⟩, ⟨Tryz.func207, by kernel_rfl, by kernel_rfl⟩, ⟨Tryz.func127, by kernel_rfl, by kernel_rfl⟩, ⟨Tryz.func64, by kernel_rfl, by kernel_rfl⟩, ⟨Tryz.func133, by kernel_rfl, by kernel_rfl⟩, ⟨Tryz.func66, by kernel_rfl, by kernel_rfl⟩, ⟨Tryz.func131, by kernel_rfl, by kernel_rfl⟩, ⟨Tryz.func106, by kernel_rfl, by kernel_rfl⟩, ⟨Tryz.func347, by kernel_rfl, by kernel_rfl⟩, ⟨Tryz.func348, by kernel_rfl, by kernel_rfl⟩, ⟨Tryz.func311, by kernel_rfl, by kernel_rfl⟩, ⟨Tryz.func312, by kernel_rfl, by kernel_rfl⟩, ⟨Tryz.func313, by kernel_rfl, by kernel_rfl⟩, ⟨Tryz.func314, by kernel_rfl, by kernel_rfl⟩, ⟨Tryz.func243, by kernel_rfl, by kernel_rfl⟩, ⟨Tryz.func182, by kernel_rfl, by kernel_rfl⟩, ⟨Tryz.func286, by kernel_rfl, by kernel_rfl⟩, ⟨Tryz.func209, by kernel_rfl, by kernel_rfl⟩, ⟨Tryz.func218, by kernel_rfl, by kernel_rfl⟩, ⟨Tryz.func142, by kernel_rfl, by kernel_rfl⟩, ⟨Tryz.func210, by kernel_rfl, by kernel_rfl⟩, ⟨Tryz.func132, by kernel_rfl, by kernel_rfl⟩, ⟨Tryz.func65, by kernel_rfl, by kernel_rfl⟩, ⟨Tryz.func16, by kernel_rfl, by kernel_rfl⟩, ⟨Tryz.func31, by kernel_rfl, by kernel_rfl⟩, ⟨Tryz.func17, by kernel_rfl, by kernel_rfl⟩, ⟨Tryz.func92, by kernel_rfl, by kernel_rfl⟩, ⟨Tryz.func43, by kernel_rfl, by kernel_rfl⟩, ⟨Tryz.func291, by kernel_rfl, by kernel_rfl⟩, ⟨Tryz.func225, by kernel_rfl, by kernel_rfl⟩, ⟨Tryz.func154, by kernel_rfl, by kernel_rfl⟩, ⟨Tryz.func78, by kernel_rfl, by kernel_rfl⟩, ⟨Tryz.func32, by kernel_rfl, by kernel_rfl⟩, ⟨Tryz.func19, by kernel_rfl, by kernel_rfl⟩, ⟨Tryz.func134, by kernel_rfl, by kernel_rfl⟩, ⟨Tryz.func67, by kernel_rfl, by kernel_rfl⟩, ⟨Tryz.func18, by kernel_rfl, by kernel_rfl⟩, ⟨Tryz.func44, by kernel_rfl, by kernel_rfl⟩, ⟨Tryz.func155, by kernel_rfl, by kernel_rfl⟩, ⟨Tryz.func79, by kernel_rfl, by kernel_rfl⟩, ⟨Tryz.func33, by kernel_rfl, by kernel_rfl⟩, ⟨Tryz.func21, by kernel_rfl, by kernel_rfl⟩, ⟨Tryz.func68, by kernel_rfl, by kernel_rfl⟩, ⟨Tryz.func20, by kernel_rfl, by kernel_rfl⟩, ⟨Tryz.func34, by kernel_rfl, by kernel_rfl⟩, ⟨Tryz.func22, by kernel_rfl, by kernel_rfl⟩, ⟨Tryz.func35, by kernel_rfl, by kernel_rfl⟩, ⟨Tryz.func23, by kernel_rfl, by kernel_rfl⟩, ⟨Tryz.func3, by kernel_rfl, by kernel_rfl⟩, trivial⟩ trivial (by kernel_rfl)
theorem nats : NatOk Tryz.prog H := nat_of (keys := keysL) rfl ⟨.plain rfl, .plain rfl, .plain rfl, .plain rfl, .plain rfl, .plain rfl, .plain rfl, .plain rfl, .plain rfl, .plain rfl, .plain rfl, .plain rfl, .plain rfl, .plain rfl, .plain rfl, .plain rfl, .plain rfl, .plain rfl, .plain rfl, .plain rfl, .plain rfl, .plain rfl, .plain rfl, .plain rfl, .plain rfl, .plain rfl, .plain rfl, .plain rfl, .plain rfl, .plain rfl, .plain rfl, .plain rfl, .plain rfl, .plain rfl, .plain rfl, .plain rfl, .plain rfl, .plain rfl, .plain rfl, .plain rfl, .plain rfl, .plain rfl, .plain rfl, .plain rfl, .plain rfl, .plain rfl, .plain rfl, .plain rfl, .plain rfl, .plain rfl, .plain rfl, .plain rfl, .plain rfl, .plain rfl, .plain rfl, .plain rfl, .plain rfl, .plain rfl, .plain rfl, .plain rfl, .plain rfl, .plain rfl, .plain rfl, .plain rfl, .plain rfl, .plain rfl, .plain rfl, .plain rfl, .plain rfl, .plain rfl, .plain rfl, .plain rfl, .plain rfl, .plain rfl, .plain rfl, .plain rfl, .plain rfl, .plain rfl, .plain rfl, .plain rfl, .plain rfl, .plain rfl, .sort Tryz.sortOk, .compact (by decide) Tryz.compactOk, .plain rfl, .plain rfl, .plain rfl, .plain rfl, .plain rfl, .plain rfl, .plain rfl, .plain rfl, .plain rfl, .plain rfl, .plain rfl, .plain rfl, .plain rfl, .plain rfl, .plain rfl, .plain rfl, .plain rfl, .plain rfl, .plain rfl, .plain rfl, .plain rfl, .plain rfl, .plain rfl, .plain rfl, .plain rfl, .plain rfl, .plain rfl, .plain rfl, .plain rfl, .plain rfl, .plain rfl, .plain rfl, .plain rfl, .plain rfl, .plain rfl, .plain rfl, .plain rfl, .plain rfl, .plain rfl, .plain rfl, .plain rfl, .plain rfl, .plain rfl, .plain rfl, .plain rfl, .plain rfl, .plain rfl, .plain rfl, .plain rfl, .plain rfl, .plain rfl, .plain rfl, .plain rfl, .plain rfl, .plain rfl, trivial⟩
end Go.Proofs.YtkfnlnohgfpipaaGreat.R
