/- Kinds, signatures and loops of the functions that the laws reach, and what each computes. -/
import Derived.Test.YtmfoobckeoaklaaGreatRfD
import Derived.Test.YtmfoobckeoaklaaGreatProg
import Derived.KernelRfl
import Derived.Test.YtmfoobckeoaklaaGreatShelf
set_option linter.unusedVariables false
namespace Go.Proofs.YtmfoobckeoaklaaGreat.R
open Go.Rf Go.Proofs
def tyNode : Ty := (.pair (.int .i64) (.int .u64))
abbrev DNode := Int × Int
def tySaid : Ty := (.pair (.int .i64) (.int .i64))
abbrev DSaid := Int × Int
def tySight : Ty := (.one (.sl (.int .i64)))
abbrev DSight := Bool × List Int
def tyLasso : Ty := (.pair (.sl (.int .i64)) (.sl (.int .i64)))
abbrev DLasso := (Bool × List Int) × Bool × List Int
def tyEdge : Ty := (.pair (.int .i64) tySaid)
abbrev DEdge := Int × DSaid
def tyboundsError : Ty := (.pair (.int .i64) (.pair (.int .i64) (.pair .bool (.int .u8))))
abbrev DboundsError := Int × Int × Bool × Int
def tyGraph : Ty := (.one (.sl (.sl (.int .i64))))
abbrev DGraph := Bool × List (Bool × List Int)
def tyChange : Ty := (.pair (.int .i64) (.sl tyNode))
abbrev DChange := Int × Bool × List DNode
def tyl11Walk : Ty := (.pair (.sl (.sl (.int .i64))) (.pair (.sl .bool) (.sl (.int .i64))))
abbrev Dl11Walk := (Bool × List (Bool × List Int)) × (Bool × List Bool) × Bool × List Int
def tyCommand : Ty := (.pair (.sl tyNode) (.sl tyChange))
abbrev DCommand := (Bool × List DNode) × Bool × List DChange
def tyAuto : Ty := (.pair (.int .i64) (.pair (.sl (.int .i64)) (.pair (.sl tyEdge) (.sl (.sl (.int .i64))))))
abbrev DAuto := Int × (Bool × List Int) × (Bool × List DEdge) × Bool × List (Bool × List Int)
def tytarjan : Ty := (.pair (.sl (.sl (.int .i64))) (.pair (.sl (.int .i64)) (.pair (.sl (.int .i64)) (.pair (.sl (.int .i64)) (.pair (.sl (.int .i64)) (.int .i64))))))
abbrev Dtarjan := (Bool × List (Bool × List Int)) × (Bool × List Int) × (Bool × List Int) × (Bool × List Int) × (Bool × List Int) × Int
def tyProgram : Ty := (.pair (.int .i64) (.pair (.int .i64) (.pair (.sl tyNode) (.sl tyCommand))))
abbrev DProgram := Int × Int × (Bool × List DNode) × Bool × List DCommand
def tyQuestion : Ty := (.pair tyProgram (.pair (.sl (.sl tyNode)) (.sl tySaid)))
abbrev DQuestion := DProgram × (Bool × List (Bool × List DNode)) × Bool × List DSaid
noncomputable def h_laws_szNodeS : FnH := ⟨24, Tryz.f24, (.tup (.v (.sl tyNode)) (.tup (.v (.int .i64)) .unit)), (.tup (.v (.int .i64)) .unit), [], [], [], [], [], none⟩
noncomputable def h_laws_szChange : FnH := ⟨229, Tryz.f229, (.tup (.v tyChange) (.tup (.v (.int .i64)) .unit)), (.tup (.v (.int .i64)) .unit), [], [], [], [], [], none⟩
noncomputable def h_laws_szChangeS : FnH := ⟨169, Tryz.f169, (.tup (.v (.sl tyChange)) (.tup (.v (.int .i64)) .unit)), (.tup (.v (.int .i64)) .unit), [], [], [(0, ⟨[(0, (.v (.sl tyChange))), (1, (.v (.int .i64))), (5, (.v (.int .i64)))], [(.ret, [(4, (.v (.int .i64)))]), (.exit 0, [(1, (.v (.int .i64)))])], []⟩)], [], [], none⟩
noncomputable def h_laws_szCommand : FnH := ⟨109, Tryz.f109, (.tup (.v tyCommand) (.tup (.v (.int .i64)) .unit)), (.tup (.v (.int .i64)) .unit), [], [], [], [], [], none⟩
noncomputable def h_laws_szCommandS : FnH := ⟨53, Tryz.f53, (.tup (.v (.sl tyCommand)) (.tup (.v (.int .i64)) .unit)), (.tup (.v (.int .i64)) .unit), [], [], [(0, ⟨[(0, (.v (.sl tyCommand))), (1, (.v (.int .i64))), (5, (.v (.int .i64)))], [(.ret, [(4, (.v (.int .i64)))]), (.exit 0, [(1, (.v (.int .i64)))])], []⟩)], [], [], none⟩
noncomputable def h_laws_szProgram : FnH := ⟨11, Tryz.f11, (.tup (.v tyProgram) (.tup (.v (.int .i64)) .unit)), (.tup (.v (.int .i64)) .unit), [], [], [], [], [], none⟩
noncomputable def h_laws_szNodeSS : FnH := ⟨76, Tryz.f76, (.tup (.v (.sl (.sl tyNode))) (.tup (.v (.int .i64)) .unit)), (.tup (.v (.int .i64)) .unit), [], [], [(0, ⟨[(0, (.v (.sl (.sl tyNode)))), (1, (.v (.int .i64))), (5, (.v (.int .i64)))], [(.ret, [(4, (.v (.int .i64)))]), (.exit 0, [(1, (.v (.int .i64)))])], []⟩)], [], [], none⟩
noncomputable def h_laws_szSaidS : FnH := ⟨77, Tryz.f77, (.tup (.v (.sl tySaid)) (.tup (.v (.int .i64)) .unit)), (.tup (.v (.int .i64)) .unit), [], [], [], [], [], none⟩
noncomputable def h_laws_szQuestion : FnH := ⟨32, Tryz.f32, (.tup (.v tyQuestion) (.tup (.v (.int .i64)) .unit)), (.tup (.v (.int .i64)) .unit), [], [], [], [], [], none⟩
noncomputable def h_laws_szIntS : FnH := ⟨54, Tryz.f54, (.tup (.v (.sl (.int .i64))) (.tup (.v (.int .i64)) .unit)), (.tup (.v (.int .i64)) .unit), [], [], [], [], [], none⟩
noncomputable def h_laws_szSight : FnH := ⟨12, Tryz.f12, (.tup (.v tySight) (.tup (.v (.int .i64)) .unit)), (.tup (.v (.int .i64)) .unit), [], [], [], [], [], none⟩
noncomputable def h_laws_toNode : FnH := ⟨66, Tryz.f66, (.tup (.v tyNode) .unit), (.tup (.v tyNode) .unit), [], [], [], [], [], none⟩
noncomputable def h_laws_toNodeS : FnH := ⟨26, Tryz.f26, (.tup (.v (.sl tyNode)) .unit), (.tup (.own 206850 tyNode true) .unit), [], [], [(0, ⟨[(0, (.v (.sl tyNode))), (3, (.own 206849 tyNode true)), (4, (.v (.int .i64)))], [(.exit 0, [(1206849, (.own 206849 tyNode true))])], [3]⟩)], [], [], none⟩
noncomputable def h_laws_toChange : FnH := ⟨231, Tryz.f231, (.tup (.v tyChange) .unit), (.tup (.pair (.v (.int .i64)) (.own 206851 tyNode true)) .unit), [], [], [], [], [], none⟩
noncomputable def h_laws_toChangeS : FnH := ⟨173, Tryz.f173, (.tup (.v (.sl tyChange)) .unit), (.tup (.own 206853 tyChange true) .unit), [], [], [(0, ⟨[(0, (.v (.sl tyChange))), (3, (.own 206852 tyChange true)), (4, (.v (.int .i64)))], [(.exit 0, [(1206852, (.own 206852 tyChange true))])], [3]⟩)], [], [], none⟩
noncomputable def h_laws_toCommand : FnH := ⟨115, Tryz.f115, (.tup (.v tyCommand) .unit), (.tup (.pair (.own 206854 tyNode true) (.own 206855 tyChange true)) .unit), [], [], [], [], [], none⟩
noncomputable def h_laws_toCommandS : FnH := ⟨57, Tryz.f57, (.tup (.v (.sl tyCommand)) .unit), (.tup (.own 206857 tyCommand true) .unit), [], [], [(0, ⟨[(0, (.v (.sl tyCommand))), (3, (.own 206856 tyCommand true)), (4, (.v (.int .i64)))], [(.exit 0, [(1206856, (.own 206856 tyCommand true))])], [3]⟩)], [], [], none⟩
noncomputable def h_laws_toProgram : FnH := ⟨14, Tryz.f14, (.tup (.v tyProgram) .unit), (.tup (.pair (.v (.int .i64)) (.pair (.v (.int .i64)) (.pair (.own 206858 tyNode true) (.own 206859 tyCommand true)))) .unit), [], [], [], [], [], none⟩
noncomputable def h_laws_toNodeSS : FnH := ⟨80, Tryz.f80, (.tup (.v (.sl (.sl tyNode))) .unit), (.tup (.own 206861 (.sl tyNode) true) .unit), [], [], [(0, ⟨[(0, (.v (.sl (.sl tyNode)))), (3, (.own 206860 (.sl tyNode) true)), (4, (.v (.int .i64)))], [(.exit 0, [(1206860, (.own 206860 (.sl tyNode) true))])], [3]⟩)], [], [], none⟩
noncomputable def h_laws_toSaid : FnH := ⟨136, Tryz.f136, (.tup (.v tySaid) .unit), (.tup (.v tySaid) .unit), [], [], [], [], [], none⟩
noncomputable def h_laws_toSaidS : FnH := ⟨81, Tryz.f81, (.tup (.v (.sl tySaid)) .unit), (.tup (.own 206863 tySaid true) .unit), [], [], [(0, ⟨[(0, (.v (.sl tySaid))), (3, (.own 206862 tySaid true)), (4, (.v (.int .i64)))], [(.exit 0, [(1206862, (.own 206862 tySaid true))])], [3]⟩)], [], [], none⟩
noncomputable def h_laws_toQuestion : FnH := ⟨34, Tryz.f34, (.tup (.v tyQuestion) .unit), (.tup (.pair (.pair (.v (.int .i64)) (.pair (.v (.int .i64)) (.pair (.own 206864 tyNode true) (.own 206865 tyCommand true)))) (.pair (.own 206866 (.sl tyNode) true) (.own 206867 tySaid true))) .unit), [], [], [], [], [], none⟩
noncomputable def h_laws_toIntS : FnH := ⟨40, Tryz.f40, (.tup (.v (.sl (.int .i64))) .unit), (.tup (.own 206869 (.int .i64) true) .unit), [], [], [(0, ⟨[(0, (.v (.sl (.int .i64)))), (3, (.own 206868 (.int .i64) true)), (4, (.v (.int .i64)))], [(.exit 0, [(1206868, (.own 206868 (.int .i64) true))])], [3]⟩)], [], [], none⟩
noncomputable def h_laws_toSight : FnH := ⟨15, Tryz.f15, (.tup (.v tySight) .unit), (.tup (.one (.own 206870 (.int .i64) true)) .unit), [], [], [], [], [], none⟩
noncomputable def h_spec_l1In : FnH := ⟨86, Tryz.f86, (.tup (.v (.int .i64)) (.tup (.v (.int .i64)) (.tup (.v (.int .i64)) .unit))), (.tup (.v .bool) .unit), [], [], [], [], [], none⟩
noncomputable def h_spec_l1Wide : FnH := ⟨177, Tryz.f177, (.tup (.v (.int .i64)) .unit), (.tup (.v .bool) .unit), [], [], [], [], [], none⟩
noncomputable def h_spec_l2Need : FnH := ⟨178, Tryz.f178, (.tup (.v (.int .i64)) .unit), (.tup (.v (.int .i64)) (.tup (.v (.int .i64)) (.tup (.v (.int .i64)) .unit))), [], [], [], [], [], none⟩
noncomputable def h_spec_l1Cut : FnH := ⟨239, Tryz.f239, (.tup (.v (.int .i64)) (.tup (.v (.int .u64)) .unit)), (.tup (.v (.int .u64)) .unit), [], [], [(0, ⟨[(0, (.v (.int .i64))), (1, (.v (.int .u64))), (5, (.v (.int .u64))), (6, (.v (.int .i64)))], [(.exit 0, [(5, (.v (.int .u64)))])], []⟩)], [], [], none⟩
noncomputable def h_spec_GoodWord : FnH := ⟨238, Tryz.f238, (.tup (.v (.int .i64)) (.tup (.v (.int .u64)) .unit)), (.tup (.v .bool) .unit), [], [], [], [], [], none⟩
noncomputable def h_spec_l2N : FnH := ⟨179, Tryz.f179, (.tup (.v (.int .i64)) (.tup (.v (.int .i64)) (.tup (.v tyNode) .unit))), (.tup (.v .bool) .unit), [], [], [], [], [], none⟩
noncomputable def h_spec_l2Kind : FnH := ⟨123, Tryz.f123, (.tup (.v (.int .i64)) (.tup (.v (.int .i64)) (.tup (.v (.sl tyNode)) .unit))), (.tup (.v (.int .i64)) .unit), [], [], [(0, ⟨[(0, (.v (.int .i64))), (1, (.v (.int .i64))), (7, (.own 206871 (.int .i64) true)), (27, (.v (.sl tyNode))), (28, (.v (.int .i64))), (29, (.v (.int .i64)))], [(.ret, [(6, (.v (.int .i64)))]), (.exit 0, [(7, (.own 206874 (.int .i64) true))])], []⟩), (2, ⟨[(0, (.v (.int .i64))), (1, (.v (.int .i64))), (7, (.own 206872 (.int .i64) true)), (10, (.v (.int .i64))), (11, (.v (.int .i64))), (12, (.v (.int .i64))), (27, (.v (.sl tyNode))), (28, (.v (.int .i64))), (29, (.v (.int .i64)))], [(.ret, [(6, (.v (.int .i64)))]), (.exit 2, [(7, (.own 206873 (.int .i64) true))])], [0, 1, 12, 27, 28, 29]⟩)], [], [], none⟩
noncomputable def h_spec_l7Asks : FnH := ⟨62, Tryz.f62, (.tup (.v tyProgram) (.tup (.v (.sl tyNode)) .unit)), (.tup (.v .bool) .unit), [], [], [], [], [], none⟩
noncomputable def h_spec_l7Command : FnH := ⟨230, Tryz.f230, (.tup (.v tyProgram) (.tup (.v tyCommand) .unit)), (.tup (.v .bool) .unit), [], [], [(0, ⟨[(2, (.sp tyProgram)), (3, (.sp tyCommand)), (21, (.v (.sl tyChange))), (22, (.v (.int .i64))), (23, (.v (.int .i64)))], [(.ret, [(4, (.v .bool))]), (.exit 0, [])], []⟩)], [], [], none⟩
noncomputable def h_spec_GoodProgram : FnH := ⟨170, Tryz.f170, (.tup (.v tyProgram) .unit), (.tup (.v .bool) .unit), [], [], [(0, ⟨[(1, (.sp tyProgram)), (18, (.v (.sl tyCommand))), (19, (.v (.int .i64))), (20, (.v (.int .i64)))], [(.ret, [(2, (.v .bool))]), (.exit 0, [])], []⟩)], [], [], none⟩
noncomputable def h_spec_l7Small : FnH := ⟨110, Tryz.f110, (.tup (.v tyProgram) .unit), (.tup (.v .bool) .unit), [], [], [], [], [], none⟩
noncomputable def h_spec_l10Need : FnH := ⟨272, Tryz.f272, (.tup (.v (.int .i64)) .unit), (.tup (.v (.int .i64)) .unit), [], [], [], [], [], none⟩
noncomputable def h_spec_l10N : FnH := ⟨273, Tryz.f273, (.tup (.v tySaid) .unit), (.tup (.v .bool) .unit), [], [], [], [], [], none⟩
noncomputable def h_spec_GoodSaid : FnH := ⟨245, Tryz.f245, (.tup (.v (.sl tySaid)) .unit), (.tup (.v .bool) .unit), [], [], [(0, ⟨[(3, (.v (.int .i64))), (11, (.v (.sl tySaid))), (12, (.v (.int .i64))), (13, (.v (.int .i64)))], [(.ret, [(2, (.v .bool))]), (.exit 0, [(3, (.v (.int .i64)))])], []⟩)], [], [], none⟩
noncomputable def h_spec_l1Put : FnH := ⟨172, Tryz.f172, (.tup (.v (.sl (.int .i64))) (.tup (.v (.int .i64)) .unit)), (.tup (.v (.sl (.int .i64))) .unit), [], [], [(0, ⟨[(0, (.v (.sl (.int .i64)))), (1, (.v (.int .i64))), (5, (.v (.int .i64)))], [(.exit 0, [(5, (.v (.int .i64)))])], [0, 1]⟩)], [], [], none⟩
noncomputable def h_spec_l13Tracked : FnH := ⟨207, Tryz.f207, (.tup (.v (.sl tySaid)) .unit), (.tup (.v (.sl (.int .i64))) .unit), [], [], [(0, ⟨[(3, (.v (.sl (.int .i64)))), (10, (.v (.sl tySaid))), (11, (.v (.int .i64))), (12, (.v (.int .i64)))], [(.exit 0, [(3, (.v (.sl (.int .i64))))])], []⟩)], [], [], none⟩
noncomputable def h_spec_l13Good : FnH := ⟨187, Tryz.f187, (.tup (.v (.sl tySaid)) .unit), (.tup (.v .bool) .unit), [], [], [], [], [], none⟩
noncomputable def h_spec_GoodQuestion : FnH := ⟨133, Tryz.f133, (.tup (.v tyQuestion) .unit), (.tup (.v .bool) .unit), [], [], [(0, ⟨[(1, (.sp tyQuestion)), (22, (.v (.sl (.sl tyNode)))), (23, (.v (.int .i64))), (24, (.v (.int .i64)))], [(.ret, [(2, (.v .bool))]), (.exit 0, [])], []⟩)], [], [], none⟩
noncomputable def h_spec_l7Many : FnH := ⟨111, Tryz.f111, (.tup (.v tyProgram) .unit), (.tup (.v (.int .i64)) .unit), [], [], [], [], [], none⟩
noncomputable def h_spec_GoodSight : FnH := ⟨55, Tryz.f55, (.tup (.v tyProgram) (.tup (.v tySight) .unit)), (.tup (.v .bool) .unit), [], [], [(0, ⟨[(5, (.v (.int .i64))), (20, (.v (.sl (.int .i64)))), (21, (.v (.int .i64))), (22, (.v (.int .i64)))], [(.ret, [(4, (.v .bool))]), (.exit 0, [])], []⟩)], [], [], none⟩
noncomputable def h_spec_l22Sight : FnH := ⟨78, Tryz.f78, (.tup (.v tyQuestion) (.tup (.v tySight) .unit)), (.tup (.v .bool) .unit), [], [], [], [], [], none⟩
noncomputable def h_spec_l15Many : FnH := ⟨87, Tryz.f87, (.tup (.v tySight) .unit), (.tup (.v (.int .i64)) .unit), [], [], [(0, ⟨[(3, (.v (.int .i64))), (7, (.v (.sl (.int .i64)))), (8, (.v (.int .i64))), (9, (.v (.int .i64)))], [(.exit 0, [(3, (.v (.int .i64)))])], []⟩)], [], [], none⟩
noncomputable def h_spec_l15In : FnH := ⟨134, Tryz.f134, (.tup (.v tySight) (.tup (.v (.int .i64)) .unit)), (.tup (.own 206879 (.int .i64) true) .unit), [], [], [(0, ⟨[(1, (.v (.int .i64))), (5, (.own 206877 (.int .i64) true)), (9, (.v (.sl (.int .i64)))), (10, (.v (.int .i64))), (11, (.v (.int .i64)))], [(.exit 0, [(5, (.own 206878 (.int .i64) true))])], []⟩)], [], [], none⟩
noncomputable def h_spec_l7Of : FnH := ⟨125, Tryz.f125, (.tup (.v tyProgram) (.tup (.v (.int .i64)) .unit)), (.tup (.own 206882 (.int .u64) true) .unit), [], [], [(0, ⟨[(1, (.v (.int .i64))), (2, (.sp tyProgram)), (5, (.own 206880 (.int .u64) true)), (6, (.v (.int .i64)))], [(.exit 0, [(5, (.own 206881 (.int .u64) true))])], []⟩)], [], [], none⟩
noncomputable def h_spec_l2From : FnH := ⟨241, Tryz.f241, (.tup (.v (.sl tyNode)) (.tup (.v (.int .i64)) .unit)), (.tup (.v (.int .i64)) .unit), [], [], [(0, ⟨[(0, (.v (.sl tyNode))), (5, (.v (.int .i64))), (8, (.v (.int .i64)))], [(.exit 0, [(8, (.v (.int .i64)))])], []⟩)], [], [], none⟩
noncomputable def h_spec_l1Both : FnH := ⟨282, Tryz.f282, (.tup (.v (.int .i64)) (.tup (.v (.int .u64)) (.tup (.v (.int .u64)) .unit))), (.tup (.v .bool) .unit), [], [], [], [], [], none⟩
noncomputable def h_spec_DivWord : FnH := ⟨267, Tryz.f267, (.tup (.v (.int .i64)) (.tup (.v (.int .u64)) (.tup (.v (.int .u64)) .unit))), (.tup (.v (.int .u64)) (.tup (.v (.int .u64)) (.tup (.v .bool) .unit))), [], [], [], [], [], none⟩
noncomputable def h_spec_l1Shift : FnH := ⟨268, Tryz.f268, (.tup (.v (.int .i64)) (.tup (.v (.int .u64)) (.tup (.v (.int .u64)) (.tup (.v .bool) .unit)))), (.tup (.v (.int .u64)) .unit), [], [], [(0, ⟨[(0, (.v (.int .i64))), (1, (.v (.int .u64))), (2, (.v (.int .u64))), (3, (.v .bool))], [(.exit 0, [(1, (.v (.int .u64)))])], []⟩)], [], [], none⟩
noncomputable def h_spec_l2Bool : FnH := ⟨269, Tryz.f269, (.tup (.v .bool) .unit), (.tup (.v (.int .u64)) .unit), [], [], [], [], [], none⟩
noncomputable def h_spec_l1Signed : FnH := ⟨270, Tryz.f270, (.tup (.v (.int .i64)) (.tup (.v (.int .u64)) .unit)), (.tup (.v (.int .i64)) .unit), [], [], [], [], [], none⟩
noncomputable def h_spec_l2Do : FnH := ⟨240, Tryz.f240, (.tup (.v (.int .i64)) (.tup (.v (.int .i64)) (.tup (.v (.int .u64)) (.tup (.v (.int .u64)) .unit)))), (.tup (.v (.int .u64)) .unit), [], [], [], [], [], none⟩
noncomputable def h_spec_l2Value : FnH := ⟨180, Tryz.f180, (.tup (.v (.int .i64)) (.tup (.v (.sl tyNode)) (.tup (.v (.int .i64)) (.tup (.v (.sl (.int .u64))) .unit)))), (.tup (.v (.int .u64)) .unit), [], [], [], [], [], none⟩
noncomputable def h_spec_l7Holds : FnH := ⟨124, Tryz.f124, (.tup (.v tyProgram) (.tup (.v (.sl tyNode)) (.tup (.v (.sl (.int .u64))) .unit))), (.tup (.v .bool) .unit), [], [], [], [], [], none⟩
noncomputable def h_spec_l14Letter : FnH := ⟨135, Tryz.f135, (.tup (.v tyQuestion) (.tup (.v (.int .i64)) .unit)), (.tup (.v (.int .i64)) .unit), [], [], [(0, ⟨[(1, (.v (.int .i64))), (2, (.sp tyQuestion)), (5, (.v (.int .i64))), (9, (.v (.sl (.sl tyNode)))), (10, (.v (.int .i64))), (11, (.v (.int .i64)))], [(.exit 0, [(5, (.v (.int .i64)))])], []⟩)], [], [], none⟩
noncomputable def h_spec_l22Fit : FnH := ⟨79, Tryz.f79, (.tup (.v tyQuestion) (.tup (.v tySight) .unit)), (.tup (.v .bool) .unit), [], [], [(0, ⟨[(2, (.sp tyQuestion)), (3, (.sp tySight)), (5, (.v (.int .i64)))], [(.ret, [(4, (.v .bool))]), (.exit 0, [])], []⟩), (2, ⟨[(2, (.sp tyQuestion)), (3, (.sp tySight)), (5, (.v (.int .i64))), (6, (.v (.sl (.int .i64)))), (18, (.v (.sl (.int .i64)))), (19, (.v (.int .i64))), (20, (.v (.int .i64)))], [(.ret, [(4, (.v .bool))]), (.exit 2, [])], [2, 3, 5]⟩)], [], [], none⟩
noncomputable def h_spec_l22Letter : FnH := ⟨88, Tryz.f88, (.tup (.v tyQuestion) (.tup (.v tySight) (.tup (.v (.int .i64)) .unit))), (.tup (.v (.int .i64)) .unit), [], [], [], [], [], none⟩
noncomputable def h_spec_ClassLetter : FnH := ⟨37, Tryz.f37, (.tup (.v tyQuestion) (.tup (.v tySight) (.tup (.v (.int .i64)) .unit))), (.tup (.v (.int .i64)) (.tup (.v .bool) .unit)), [], [], [], [], [], none⟩
noncomputable def h_impl_isWide : FnH := ⟨232, Tryz.f232, (.tup (.v (.int .i64)) .unit), (.tup (.v .bool) .unit), [], [], [], [], [], none⟩
noncomputable def h_impl_isVars : FnH := ⟨233, Tryz.f233, (.tup (.v (.int .i64)) .unit), (.tup (.v .bool) .unit), [], [], [], [], [], none⟩
noncomputable def h_impl_operandsOf : FnH := ⟨242, Tryz.f242, (.tup (.v (.int .i64)) .unit), (.tup (.v (.int .i64)) (.tup (.v (.int .i64)) (.tup (.v (.int .i64)) .unit))), [], [], [], [], [], none⟩
noncomputable def h_impl_mask : FnH := ⟨149, Tryz.f149, (.tup (.v (.int .i64)) .unit), (.tup (.v (.int .u64)) .unit), [], [], [], [], [], none⟩
noncomputable def h_impl_GoodWord : FnH := ⟨271, Tryz.f271, (.tup (.v (.int .i64)) (.tup (.v (.int .u64)) .unit)), (.tup (.v .bool) .unit), [], [], [], [], [], none⟩
noncomputable def h_impl_isLeafRight : FnH := ⟨243, Tryz.f243, (.tup (.v (.int .i64)) (.tup (.v (.int .i64)) (.tup (.v tyNode) .unit))), (.tup (.v .bool) .unit), [], [], [], [], [], none⟩
noncomputable def h_impl_GoodTerm_1 : FnH := ⟨244, Tryz.f244, (.tup (.v (.int .i64)) (.tup (.sp (.int .i64)) .unit)), (.tup (.v .bool) .unit), [], [], [], [], [], none⟩
noncomputable def h_slices_IndexFunc_int_by_GoodTerm_1 : FnH := ⟨129, Tryz.f129, (.tup (.v (.sl (.int .i64))) (.tup (.v (.fn 244 (.pair (.int .i64) .nil))) .unit)), (.tup (.v (.int .i64)) .unit), [], [], [(0, ⟨[(0, (.v (.sl (.int .i64)))), (1, (.v (.fn 244 (.pair (.int .i64) .nil)))), (7, (.v (.int .i64))), (8, (.v (.int .i64)))], [(.ret, [(4, (.v (.int .i64)))]), (.exit 0, [])], []⟩)], [], [], none⟩
noncomputable def h_slices_ContainsFunc_int_by_GoodTerm_1 : FnH := ⟨70, Tryz.f70, (.tup (.v (.sl (.int .i64))) (.tup (.v (.fn 244 (.pair (.int .i64) .nil))) .unit)), (.tup (.v .bool) .unit), [], [], [], [], [], none⟩
noncomputable def h_impl_GoodTerm : FnH := ⟨181, Tryz.f181, (.tup (.v (.int .i64)) (.tup (.v (.int .i64)) (.tup (.v (.sl tyNode)) .unit))), (.tup (.v .bool) .unit), [], [], [(0, ⟨[(0, (.v (.int .i64))), (1, (.v (.int .i64))), (7, (.own 206883 (.int .i64) true)), (33, (.v (.sl tyNode))), (34, (.v (.int .i64))), (35, (.v (.int .i64)))], [(.ret, [(6, (.v .bool))]), (.exit 0, [(7, (.own 206884 (.int .i64) true))])], []⟩)], [], [], none⟩
noncomputable def h_impl_kindOf : FnH := ⟨182, Tryz.f182, (.tup (.v (.sl tyNode)) .unit), (.tup (.v (.int .i64)) .unit), [], [], [], [], [], none⟩
noncomputable def h_impl_isTermOf : FnH := ⟨126, Tryz.f126, (.tup (.v (.int .i64)) (.tup (.v (.int .i64)) (.tup (.v (.sl tyNode)) (.tup (.v (.int .i64)) .unit)))), (.tup (.v .bool) .unit), [], [], [], [], [], none⟩
noncomputable def h_impl_Program_isCondition : FnH := ⟨67, Tryz.f67, (.tup (.v tyProgram) (.tup (.v (.sl tyNode)) .unit)), (.tup (.v .bool) .unit), [], [], [], [], [], none⟩
noncomputable def h_impl_Program_isCommand : FnH := ⟨236, Tryz.f236, (.tup (.v tyProgram) (.tup (.v tyCommand) .unit)), (.tup (.v .bool) .unit), [], [], [(0, ⟨[(2, (.sp tyProgram)), (3, (.sp tyCommand)), (13, (.v (.sl tyChange))), (14, (.v (.int .i64))), (15, (.v (.int .i64)))], [(.ret, [(4, (.v .bool))]), (.exit 0, [])], []⟩)], [], [], none⟩
noncomputable def h_impl_GoodProgram_1 : FnH := ⟨235, Tryz.f235, (.tup (.v tyCommand) (.tup (.sp tyProgram) .unit)), (.tup (.v .bool) .unit), [], [], [], [], [], none⟩
noncomputable def h_slices_IndexFunc_Command_by_GoodProgram_1 : FnH := ⟨266, Tryz.f266, (.tup (.v (.sl tyCommand)) (.tup (.v (.fn 235 (.pair tyProgram .nil))) .unit)), (.tup (.v (.int .i64)) .unit), [], [], [(0, ⟨[(0, (.v (.sl tyCommand))), (1, (.v (.fn 235 (.pair tyProgram .nil)))), (7, (.v (.int .i64))), (8, (.v (.int .i64)))], [(.ret, [(4, (.v (.int .i64)))]), (.exit 0, [])], []⟩)], [], [], none⟩
noncomputable def h_slices_ContainsFunc_Command_by_GoodProgram_1 : FnH := ⟨234, Tryz.f234, (.tup (.v (.sl tyCommand)) (.tup (.v (.fn 235 (.pair tyProgram .nil))) .unit)), (.tup (.v .bool) .unit), [], [], [], [], [], none⟩
noncomputable def h_impl_GoodProgram : FnH := ⟨174, Tryz.f174, (.tup (.v tyProgram) .unit), (.tup (.v .bool) .unit), [], [], [], [], [], none⟩
noncomputable def h_impl_isSmall : FnH := ⟨116, Tryz.f116, (.tup (.v tyProgram) .unit), (.tup (.v .bool) .unit), [], [], [], [], [], none⟩
noncomputable def h_impl_operandsOfSaid : FnH := ⟨151, Tryz.f151, (.tup (.v (.int .i64)) .unit), (.tup (.v (.int .i64)) .unit), [], [], [], [], [], none⟩
noncomputable def h_impl_isSaid : FnH := ⟨274, Tryz.f274, (.tup (.v tySaid) .unit), (.tup (.v .bool) .unit), [], [], [], [], [], none⟩
noncomputable def h_impl_GoodSaid : FnH := ⟨246, Tryz.f246, (.tup (.v (.sl tySaid)) .unit), (.tup (.v .bool) .unit), [], [], [(0, ⟨[(3, (.v (.int .i64))), (15, (.v (.sl tySaid))), (16, (.v (.int .i64))), (17, (.v (.int .i64)))], [(.ret, [(2, (.v .bool))]), (.exit 0, [(3, (.v (.int .i64)))])], []⟩)], [], [], none⟩
noncomputable def h_slices_Clone_int : FnH := ⟨227, Tryz.f227, (.tup (.v (.sl (.int .i64))) .unit), (.tup (.own 206887 (.int .i64) true) .unit), [], [], [], [], [], none⟩
noncomputable def h_impl_operandIndexes : FnH := ⟨215, Tryz.f215, (.tup (.v (.sl tySaid)) .unit), (.tup (.own 206889 (.sl (.int .i64)) true) .unit), [], [], [(0, ⟨[(3, (.own 206885 (.sl (.int .i64)) true)), (4, (.own 206886 (.int .i64) true)), (10, (.v (.sl tySaid))), (11, (.v (.int .i64))), (12, (.v (.int .i64)))], [(.exit 0, [(3, (.own 206888 (.sl (.int .i64)) true))])], []⟩)], [], [], none⟩
noncomputable def h_slices_Sort_int : FnH := sortH 257 Tryz.f257 206892
noncomputable def h_slices_Compact_int : FnH := compactH 258 Tryz.f258 206893 206894
noncomputable def h_impl_tracked : FnH := ⟨212, Tryz.f212, (.tup (.v (.sl tySaid)) .unit), (.tup (.own 206895 (.int .i64) true) .unit), [], [], [(0, ⟨[(3, (.own 206890 (.int .i64) true)), (4, (.v (.sl (.sl (.int .i64))))), (13, (.v (.sl tySaid))), (14, (.v (.int .i64))), (15, (.v (.int .i64)))], [(.exit 0, [(3, (.own 206891 (.int .i64) true))])], []⟩)], [], [], none⟩
noncomputable def h_impl_isTracked : FnH := ⟨188, Tryz.f188, (.tup (.v (.sl tySaid)) .unit), (.tup (.v .bool) .unit), [], [], [], [], [], none⟩
noncomputable def h_impl_GoodQuestion_1 : FnH := ⟨190, Tryz.f190, (.tup (.v (.sl tyNode)) (.tup (.sp tyQuestion) .unit)), (.tup (.v .bool) .unit), [], [], [], [], [], none⟩
noncomputable def h_slices_IndexFunc_Node_by_GoodQuestion_1 : FnH := ⟨247, Tryz.f247, (.tup (.v (.sl (.sl tyNode))) (.tup (.v (.fn 190 (.pair tyQuestion .nil))) .unit)), (.tup (.v (.int .i64)) .unit), [], [], [(0, ⟨[(0, (.v (.sl (.sl tyNode)))), (1, (.v (.fn 190 (.pair tyQuestion .nil)))), (7, (.v (.int .i64))), (8, (.v (.int .i64)))], [(.ret, [(4, (.v (.int .i64)))]), (.exit 0, [])], []⟩)], [], [], none⟩
noncomputable def h_slices_ContainsFunc_Node_by_GoodQuestion_1 : FnH := ⟨189, Tryz.f189, (.tup (.v (.sl (.sl tyNode))) (.tup (.v (.fn 190 (.pair tyQuestion .nil))) .unit)), (.tup (.v .bool) .unit), [], [], [], [], [], none⟩
noncomputable def h_impl_GoodQuestion : FnH := ⟨137, Tryz.f137, (.tup (.v tyQuestion) .unit), (.tup (.v .bool) .unit), [], [], [], [], [], none⟩
noncomputable def h_impl_Program_states : FnH := ⟨118, Tryz.f118, (.tup (.v tyProgram) .unit), (.tup (.v (.int .i64)) .unit), [], [], [], [], [], none⟩
noncomputable def h_impl_isSight : FnH := ⟨117, Tryz.f117, (.tup (.v tySight) (.tup (.v (.int .i64)) .unit)), (.tup (.v .bool) .unit), [], [], [(0, ⟨[(1, (.v (.int .i64))), (2, (.sp tySight)), (5, (.v (.int .i64))), (9, (.v (.sl (.int .i64)))), (10, (.v (.int .i64))), (11, (.v (.int .i64)))], [(.ret, [(4, (.v .bool))]), (.exit 0, [])], [1, 2]⟩)], [], [], none⟩
noncomputable def h_impl_GoodSight : FnH := ⟨58, Tryz.f58, (.tup (.v tyProgram) (.tup (.v tySight) .unit)), (.tup (.v .bool) .unit), [], [], [], [], [], none⟩
noncomputable def h_impl_isSightOf : FnH := ⟨82, Tryz.f82, (.tup (.v tyQuestion) (.tup (.v tySight) .unit)), (.tup (.v .bool) .unit), [], [], [], [], [], none⟩
noncomputable def h_slices_Max_int : FnH := ⟨183, Tryz.f183, (.tup (.v (.sl (.int .i64))) .unit), (.tup (.v (.int .i64)) .unit), [], [], [(0, ⟨[(0, (.v (.sl (.int .i64)))), (3, (.v (.int .i64))), (4, (.v (.int .i64)))], [(.exit 0, [(3, (.v (.int .i64)))])], []⟩)], [], [], none⟩
noncomputable def h_impl_Sight_classes : FnH := ⟨127, Tryz.f127, (.tup (.v tySight) .unit), (.tup (.v (.int .i64)) .unit), [], [], [], [], [], none⟩
noncomputable def h_bits_Mul64 : FnH := ⟨249, Tryz.f249, (.tup (.v (.int .u64)) (.tup (.v (.int .u64)) .unit)), (.tup (.v (.int .u64)) (.tup (.v (.int .u64)) .unit)), [], [], [], [], [], none⟩
noncomputable def h_bits_Mul : FnH := ⟨191, Tryz.f191, (.tup (.v (.int .u64)) (.tup (.v (.int .u64)) .unit)), (.tup (.v (.int .u64)) (.tup (.v (.int .u64)) .unit)), [], [], [], [], [], none⟩
noncomputable def h_slices_Repeat_int : FnH := ⟨138, Tryz.f138, (.tup (.v (.sl (.int .i64))) (.tup (.v (.int .i64)) .unit)), (.tup (.own 206897 (.int .i64) true) .unit), [], [], [(0, ⟨[(7, (.own 206896 (.int .i64) true)), (8, (.v (.int .i64)))], [(.exit 0, [(1206896, (.own 206896 (.int .i64) true))])], [7]⟩)], [], [], none⟩
noncomputable def h_impl_Program_stateOf : FnH := ⟨99, Tryz.f99, (.tup (.v tyProgram) (.tup (.v (.int .i64)) .unit)), (.tup (.own 206900 (.int .u64) true) .unit), [], [], [(0, ⟨[(1, (.v (.int .i64))), (2, (.sp tyProgram)), (5, (.own 206898 (.int .u64) true)), (9, (.v (.int .i64))), (10, (.v (.int .i64)))], [(.exit 0, [(5, (.own 206899 (.int .u64) true))])], []⟩)], [], [], none⟩
noncomputable def h_impl_areWords : FnH := ⟨275, Tryz.f275, (.tup (.v (.int .i64)) (.tup (.v (.int .u64)) (.tup (.v (.int .u64)) .unit))), (.tup (.v .bool) .unit), [], [], [], [], [], none⟩
noncomputable def h_bits_Div64 : FnH := ⟨276, Tryz.f276, (.tup (.v (.int .u64)) (.tup (.v (.int .u64)) (.tup (.v (.int .u64)) .unit))), (.tup (.v (.int .u64)) (.tup (.v (.int .u64)) .unit)), [], [], [], [], [], none⟩
noncomputable def h_impl_DivWord : FnH := ⟨251, Tryz.f251, (.tup (.v (.int .i64)) (.tup (.v (.int .u64)) (.tup (.v (.int .u64)) .unit))), (.tup (.v (.int .u64)) (.tup (.v (.int .u64)) (.tup (.v .bool) .unit))), [], [], [], [], [], none⟩
noncomputable def h_impl_shift : FnH := ⟨252, Tryz.f252, (.tup (.v (.int .i64)) (.tup (.v (.int .u64)) (.tup (.v (.int .u64)) (.tup (.v .bool) .unit)))), (.tup (.v (.int .u64)) .unit), [], [], [], [], [], none⟩
noncomputable def h_impl_truth : FnH := ⟨253, Tryz.f253, (.tup (.v .bool) .unit), (.tup (.v (.int .u64)) .unit), [], [], [], [], [], none⟩
noncomputable def h_impl_signed : FnH := ⟨254, Tryz.f254, (.tup (.v (.int .i64)) (.tup (.v (.int .u64)) .unit)), (.tup (.v (.int .i64)) .unit), [], [], [], [], [], none⟩
noncomputable def h_impl_apply : FnH := ⟨198, Tryz.f198, (.tup (.v (.int .i64)) (.tup (.v (.int .i64)) (.tup (.v (.int .u64)) (.tup (.v (.int .u64)) .unit)))), (.tup (.v (.int .u64)) .unit), [], [], [], [], [], none⟩
noncomputable def h_impl_valueOf : FnH := ⟨148, Tryz.f148, (.tup (.v (.int .i64)) (.tup (.v (.sl tyNode)) (.tup (.v (.sl (.int .u64))) .unit))), (.tup (.v (.int .u64)) .unit), [], [], [(0, ⟨[(0, (.v (.int .i64))), (2, (.v (.sl (.int .u64)))), (7, (.own 206901 (.int .u64) true)), (12, (.v (.sl tyNode))), (13, (.v (.int .i64))), (14, (.v (.int .i64)))], [(.exit 0, [(7, (.own 206902 (.int .u64) true))])], []⟩)], [], [], none⟩
noncomputable def h_impl_Program_holds : FnH := ⟨98, Tryz.f98, (.tup (.v tyProgram) (.tup (.v (.sl tyNode)) (.tup (.v (.sl (.int .u64))) .unit))), (.tup (.v .bool) .unit), [], [], [], [], [], none⟩
noncomputable def h_impl_Question_letterOf : FnH := ⟨139, Tryz.f139, (.tup (.v tyQuestion) (.tup (.v (.int .i64)) .unit)), (.tup (.v (.int .i64)) .unit), [], [], [(0, ⟨[(2, (.sp tyQuestion)), (5, (.v (.sl (.int .u64)))), (6, (.v (.int .i64))), (14, (.v (.sl (.sl tyNode)))), (15, (.v (.int .i64))), (16, (.v (.int .i64)))], [(.exit 0, [(6, (.v (.int .i64)))])], []⟩)], [], [], none⟩
noncomputable def h_impl_isFit : FnH := ⟨83, Tryz.f83, (.tup (.v tyQuestion) (.tup (.v tySight) .unit)), (.tup (.v .bool) .unit), [], [], [(0, ⟨[(2, (.sp tyQuestion)), (5, (.own 206903 (.int .i64) true)), (14, (.v (.sl (.int .i64)))), (15, (.v (.int .i64))), (16, (.v (.int .i64)))], [(.ret, [(1206903, (.own 206903 (.int .i64) true)), (4, (.v .bool))]), (.exit 0, [(1206903, (.own 206903 (.int .i64) true))])], []⟩)], [], [], none⟩
noncomputable def h_impl_isClass : FnH := ⟨89, Tryz.f89, (.tup (.v tyProgram) (.tup (.v tySight) (.tup (.v (.int .i64)) .unit))), (.tup (.v .bool) .unit), [], [], [], [], [], none⟩
noncomputable def h_slices_Index_int : FnH := ⟨130, Tryz.f130, (.tup (.v (.sl (.int .i64))) (.tup (.v (.int .i64)) .unit)), (.tup (.v (.int .i64)) .unit), [], [], [(0, ⟨[(0, (.v (.sl (.int .i64)))), (1, (.v (.int .i64))), (7, (.v (.int .i64))), (8, (.v (.int .i64)))], [(.ret, [(4, (.v (.int .i64)))]), (.exit 0, [])], []⟩)], [], [], none⟩
noncomputable def h_impl_classLetter : FnH := ⟨90, Tryz.f90, (.tup (.v tyQuestion) (.tup (.v tySight) (.tup (.v (.int .i64)) .unit))), (.tup (.v (.int .i64)) .unit), [], [], [], [], [], none⟩
noncomputable def h_impl_ClassLetter : FnH := ⟨38, Tryz.f38, (.tup (.v tyQuestion) (.tup (.v tySight) (.tup (.v (.int .i64)) .unit))), (.tup (.v (.int .i64)) (.tup (.v .bool) .unit)), [], [], [], [], [], none⟩
noncomputable def h_laws_eqNode : FnH := ⟨73, Tryz.f73, (.tup (.v tyNode) (.tup (.v tyNode) .unit)), (.tup (.v .bool) .unit), [], [], [], [], [], none⟩
noncomputable def h_laws_eqNodeS : FnH := ⟨28, Tryz.f28, (.tup (.v (.sl tyNode)) (.tup (.v (.sl tyNode)) .unit)), (.tup (.v .bool) .unit), [], [], [(0, ⟨[(0, (.v (.sl tyNode))), (1, (.v (.sl tyNode))), (5, (.v (.int .i64)))], [(.ret, [(4, (.v .bool))]), (.exit 0, [])], []⟩)], [], [], none⟩
noncomputable def h_laws_eqChange : FnH := ⟨237, Tryz.f237, (.tup (.v tyChange) (.tup (.v tyChange) .unit)), (.tup (.v .bool) .unit), [], [], [], [], [], none⟩
noncomputable def h_laws_eqChangeS : FnH := ⟨176, Tryz.f176, (.tup (.v (.sl tyChange)) (.tup (.v (.sl tyChange)) .unit)), (.tup (.v .bool) .unit), [], [], [(0, ⟨[(0, (.v (.sl tyChange))), (1, (.v (.sl tyChange))), (5, (.v (.int .i64)))], [(.ret, [(4, (.v .bool))]), (.exit 0, [])], []⟩)], [], [], none⟩
noncomputable def h_laws_eqCommand : FnH := ⟨121, Tryz.f121, (.tup (.v tyCommand) (.tup (.v tyCommand) .unit)), (.tup (.v .bool) .unit), [], [], [], [], [], none⟩
noncomputable def h_laws_eqCommandS : FnH := ⟨60, Tryz.f60, (.tup (.v (.sl tyCommand)) (.tup (.v (.sl tyCommand)) .unit)), (.tup (.v .bool) .unit), [], [], [(0, ⟨[(0, (.v (.sl tyCommand))), (1, (.v (.sl tyCommand))), (5, (.v (.int .i64)))], [(.ret, [(4, (.v .bool))]), (.exit 0, [])], []⟩)], [], [], none⟩
noncomputable def h_laws_eqProgram : FnH := ⟨18, Tryz.f18, (.tup (.v tyProgram) (.tup (.v tyProgram) .unit)), (.tup (.v .bool) .unit), [], [], [], [], [], none⟩
noncomputable def h_laws_eqNodeSS : FnH := ⟨84, Tryz.f84, (.tup (.v (.sl (.sl tyNode))) (.tup (.v (.sl (.sl tyNode))) .unit)), (.tup (.v .bool) .unit), [], [], [(0, ⟨[(0, (.v (.sl (.sl tyNode)))), (1, (.v (.sl (.sl tyNode)))), (5, (.v (.int .i64)))], [(.ret, [(4, (.v .bool))]), (.exit 0, [])], []⟩)], [], [], none⟩
noncomputable def h_laws_eqSaid : FnH := ⟨140, Tryz.f140, (.tup (.v tySaid) (.tup (.v tySaid) .unit)), (.tup (.v .bool) .unit), [], [], [], [], [], none⟩
noncomputable def h_laws_eqSaidS : FnH := ⟨85, Tryz.f85, (.tup (.v (.sl tySaid)) (.tup (.v (.sl tySaid)) .unit)), (.tup (.v .bool) .unit), [], [], [(0, ⟨[(0, (.v (.sl tySaid))), (1, (.v (.sl tySaid))), (5, (.v (.int .i64)))], [(.ret, [(4, (.v .bool))]), (.exit 0, [])], []⟩)], [], [], none⟩
noncomputable def h_laws_eqQuestion : FnH := ⟨36, Tryz.f36, (.tup (.v tyQuestion) (.tup (.v tyQuestion) .unit)), (.tup (.v .bool) .unit), [], [], [], [], [], none⟩
noncomputable def h_laws_eqIntS : FnH := ⟨17, Tryz.f17, (.tup (.v (.sl (.int .i64))) (.tup (.v (.sl (.int .i64))) .unit)), (.tup (.v .bool) .unit), [], [], [(0, ⟨[(0, (.v (.sl (.int .i64)))), (1, (.v (.sl (.int .i64)))), (5, (.v (.int .i64)))], [(.ret, [(4, (.v .bool))]), (.exit 0, [])], []⟩)], [], [], none⟩
noncomputable def h_laws_eqSight : FnH := ⟨19, Tryz.f19, (.tup (.v tySight) (.tup (.v tySight) .unit)), (.tup (.v .bool) .unit), [], [], [], [], [], none⟩
noncomputable def h_laws_FnExactClassLetter : FnH := ⟨7, Tryz.f7, (.tup (.v tyQuestion) (.tup (.v tySight) (.tup (.v (.int .i64)) .unit))), (.tup (.v .bool) .unit), [], [], [], [], [], none⟩
def extsL : List (Nat × ExtF) := []
def tysL : List (Nat × Ty) := [(2, (.int .i64)), (3, (.int .i64)), (4, .bool), (22, (.sl tyNode)), (23, (.sl tyCommand)), (25, tyProgram), (26, (.sl (.int .i64))), (28, tySight), (33, (.sl tyNode)), (34, (.sl tyCommand)), (36, tyProgram), (38, tySight), (55, (.sl (.sl tyNode))), (56, (.sl tySaid)), (58, tyQuestion), (61, (.sl (.sl tyNode))), (62, (.sl tySaid)), (64, tyQuestion), (74, (.sl (.sl (.int .i64)))), (95, (.int .u64)), (97, tyNode), (99, tyNode), (125, (.sl (.int .u64))), (134, (.sl tyChange)), (136, tyCommand), (141, (.sl tyChange)), (143, tyCommand), (160, tySaid), (162, tySaid), (191, (.int .u64)), (195, tyChange), (231, tyChange)]
def nfsL : List (Nat × Nat) := [(25, 4), (28, 1), (36, 4), (38, 1), (58, 3), (64, 3), (97, 2), (99, 2), (136, 2), (143, 2), (160, 2), (162, 2), (195, 2), (231, 2)]
def cellsL : List Nat := []
noncomputable def keysL : List (Nat × FnH) := [(24, h_laws_szNodeS), (229, h_laws_szChange), (169, h_laws_szChangeS), (109, h_laws_szCommand), (53, h_laws_szCommandS), (11, h_laws_szProgram), (76, h_laws_szNodeSS), (77, h_laws_szSaidS), (32, h_laws_szQuestion), (54, h_laws_szIntS), (12, h_laws_szSight), (66, h_laws_toNode), (26, h_laws_toNodeS), (231, h_laws_toChange), (173, h_laws_toChangeS), (115, h_laws_toCommand), (57, h_laws_toCommandS), (14, h_laws_toProgram), (80, h_laws_toNodeSS), (136, h_laws_toSaid), (81, h_laws_toSaidS), (34, h_laws_toQuestion), (40, h_laws_toIntS), (15, h_laws_toSight), (86, h_spec_l1In), (177, h_spec_l1Wide), (178, h_spec_l2Need), (239, h_spec_l1Cut), (238, h_spec_GoodWord), (179, h_spec_l2N), (123, h_spec_l2Kind), (62, h_spec_l7Asks), (230, h_spec_l7Command), (170, h_spec_GoodProgram), (110, h_spec_l7Small), (272, h_spec_l10Need), (273, h_spec_l10N), (245, h_spec_GoodSaid), (172, h_spec_l1Put), (207, h_spec_l13Tracked), (187, h_spec_l13Good), (133, h_spec_GoodQuestion), (111, h_spec_l7Many), (55, h_spec_GoodSight), (78, h_spec_l22Sight), (87, h_spec_l15Many), (134, h_spec_l15In), (125, h_spec_l7Of), (241, h_spec_l2From), (282, h_spec_l1Both), (267, h_spec_DivWord), (268, h_spec_l1Shift), (269, h_spec_l2Bool), (270, h_spec_l1Signed), (240, h_spec_l2Do), (180, h_spec_l2Value), (124, h_spec_l7Holds), (135, h_spec_l14Letter), (79, h_spec_l22Fit), (88, h_spec_l22Letter), (37, h_spec_ClassLetter), (232, h_impl_isWide), (233, h_impl_isVars), (242, h_impl_operandsOf), (149, h_impl_mask), (271, h_impl_GoodWord), (243, h_impl_isLeafRight), (244, h_impl_GoodTerm_1), (129, h_slices_IndexFunc_int_by_GoodTerm_1), (70, h_slices_ContainsFunc_int_by_GoodTerm_1), (181, h_impl_GoodTerm), (182, h_impl_kindOf), (126, h_impl_isTermOf), (67, h_impl_Program_isCondition), (236, h_impl_Program_isCommand), (235, h_impl_GoodProgram_1), (266, h_slices_IndexFunc_Command_by_GoodProgram_1), (234, h_slices_ContainsFunc_Command_by_GoodProgram_1), (174, h_impl_GoodProgram), (116, h_impl_isSmall), (151, h_impl_operandsOfSaid), (274, h_impl_isSaid), (246, h_impl_GoodSaid), (227, h_slices_Clone_int), (215, h_impl_operandIndexes), (257, h_slices_Sort_int), (258, h_slices_Compact_int), (212, h_impl_tracked), (188, h_impl_isTracked), (190, h_impl_GoodQuestion_1), (247, h_slices_IndexFunc_Node_by_GoodQuestion_1), (189, h_slices_ContainsFunc_Node_by_GoodQuestion_1), (137, h_impl_GoodQuestion), (118, h_impl_Program_states), (117, h_impl_isSight), (58, h_impl_GoodSight), (82, h_impl_isSightOf), (183, h_slices_Max_int), (127, h_impl_Sight_classes), (249, h_bits_Mul64), (191, h_bits_Mul), (138, h_slices_Repeat_int), (99, h_impl_Program_stateOf), (275, h_impl_areWords), (276, h_bits_Div64), (251, h_impl_DivWord), (252, h_impl_shift), (253, h_impl_truth), (254, h_impl_signed), (198, h_impl_apply), (148, h_impl_valueOf), (98, h_impl_Program_holds), (139, h_impl_Question_letterOf), (83, h_impl_isFit), (89, h_impl_isClass), (130, h_slices_Index_int), (90, h_impl_classLetter), (38, h_impl_ClassLetter), (73, h_laws_eqNode), (28, h_laws_eqNodeS), (237, h_laws_eqChange), (176, h_laws_eqChangeS), (121, h_laws_eqCommand), (60, h_laws_eqCommandS), (18, h_laws_eqProgram), (84, h_laws_eqNodeSS), (140, h_laws_eqSaid), (85, h_laws_eqSaidS), (36, h_laws_eqQuestion), (17, h_laws_eqIntS), (19, h_laws_eqSight), (7, h_laws_FnExactClassLetter)]
noncomputable def H : Hints := { extF := fun f => lookupN extsL f, ty := fun T => lookupN tysL T, nf := fun T => match lookupN nfsL T with | some n => n | none => 0, cell := fun T => hasN cellsL T, key := fun k => lookupN keysL k }
noncomputable def laws_szNodeS (a : Bool × List DNode) (left_ : Int) : Option Int := (inf H).call 24 (a, left_)
noncomputable def laws_szChange (a : DChange) (left_ : Int) : Option Int := (inf H).call 229 (a, left_)
noncomputable def laws_szChangeS (a : Bool × List DChange) (left_ : Int) : Option Int := (inf H).call 169 (a, left_)
theorem key_laws_szChangeS : H.key 169 = some h_laws_szChangeS := by kernel_rfl
noncomputable def laws_szChangeS_L0 (a : Bool × List DChange) (left_ : Int) (i : Int) : Option (Int ⊕ Int) := (inf H).loop 169 0 (loopCode Tryz.f169 0) (a, (left_, i))
noncomputable def laws_szCommand (a : DCommand) (left_ : Int) : Option Int := (inf H).call 109 (a, left_)
noncomputable def laws_szCommandS (a : Bool × List DCommand) (left_ : Int) : Option Int := (inf H).call 53 (a, left_)
theorem key_laws_szCommandS : H.key 53 = some h_laws_szCommandS := by kernel_rfl
noncomputable def laws_szCommandS_L0 (a : Bool × List DCommand) (left_ : Int) (i : Int) : Option (Int ⊕ Int) := (inf H).loop 53 0 (loopCode Tryz.f53 0) (a, (left_, i))
noncomputable def laws_szProgram (a : DProgram) (left_ : Int) : Option Int := (inf H).call 11 (a, left_)
noncomputable def laws_szNodeSS (a : Bool × List (Bool × List DNode)) (left_ : Int) : Option Int := (inf H).call 76 (a, left_)
theorem key_laws_szNodeSS : H.key 76 = some h_laws_szNodeSS := by kernel_rfl
noncomputable def laws_szNodeSS_L0 (a : Bool × List (Bool × List DNode)) (left_ : Int) (i : Int) : Option (Int ⊕ Int) := (inf H).loop 76 0 (loopCode Tryz.f76 0) (a, (left_, i))
noncomputable def laws_szSaidS (a : Bool × List DSaid) (left_ : Int) : Option Int := (inf H).call 77 (a, left_)
noncomputable def laws_szQuestion (a : DQuestion) (left_ : Int) : Option Int := (inf H).call 32 (a, left_)
noncomputable def laws_szIntS (a : Bool × List Int) (left_ : Int) : Option Int := (inf H).call 54 (a, left_)
noncomputable def laws_szSight (a : DSight) (left_ : Int) : Option Int := (inf H).call 12 (a, left_)
noncomputable def laws_toNode (a : DNode) : Option DNode := (inf H).call 66 a
noncomputable def laws_toNodeS (a : Bool × List DNode) : Option (Bool × List DNode) := (inf H).call 26 a
theorem key_laws_toNodeS : H.key 26 = some h_laws_toNodeS := by kernel_rfl
noncomputable def laws_toNodeS_L0 (a : Bool × List DNode) (out : Bool × List DNode) (i : Int) : Option (Bool × List DNode) := (inf H).loop 26 0 (loopCode Tryz.f26 0) (a, (out, i))
noncomputable def laws_toChange (a : DChange) : Option DChange := (inf H).call 231 a
noncomputable def laws_toChangeS (a : Bool × List DChange) : Option (Bool × List DChange) := (inf H).call 173 a
theorem key_laws_toChangeS : H.key 173 = some h_laws_toChangeS := by kernel_rfl
noncomputable def laws_toChangeS_L0 (a : Bool × List DChange) (out : Bool × List DChange) (i : Int) : Option (Bool × List DChange) := (inf H).loop 173 0 (loopCode Tryz.f173 0) (a, (out, i))
noncomputable def laws_toCommand (a : DCommand) : Option DCommand := (inf H).call 115 a
noncomputable def laws_toCommandS (a : Bool × List DCommand) : Option (Bool × List DCommand) := (inf H).call 57 a
theorem key_laws_toCommandS : H.key 57 = some h_laws_toCommandS := by kernel_rfl
noncomputable def laws_toCommandS_L0 (a : Bool × List DCommand) (out : Bool × List DCommand) (i : Int) : Option (Bool × List DCommand) := (inf H).loop 57 0 (loopCode Tryz.f57 0) (a, (out, i))
noncomputable def laws_toProgram (a : DProgram) : Option DProgram := (inf H).call 14 a
noncomputable def laws_toNodeSS (a : Bool × List (Bool × List DNode)) : Option (Bool × List (Bool × List DNode)) := (inf H).call 80 a
theorem key_laws_toNodeSS : H.key 80 = some h_laws_toNodeSS := by kernel_rfl
noncomputable def laws_toNodeSS_L0 (a : Bool × List (Bool × List DNode)) (out : Bool × List (Bool × List DNode)) (i : Int) : Option (Bool × List (Bool × List DNode)) := (inf H).loop 80 0 (loopCode Tryz.f80 0) (a, (out, i))
noncomputable def laws_toSaid (a : DSaid) : Option DSaid := (inf H).call 136 a
noncomputable def laws_toSaidS (a : Bool × List DSaid) : Option (Bool × List DSaid) := (inf H).call 81 a
theorem key_laws_toSaidS : H.key 81 = some h_laws_toSaidS := by kernel_rfl
noncomputable def laws_toSaidS_L0 (a : Bool × List DSaid) (out : Bool × List DSaid) (i : Int) : Option (Bool × List DSaid) := (inf H).loop 81 0 (loopCode Tryz.f81 0) (a, (out, i))
noncomputable def laws_toQuestion (a : DQuestion) : Option (Int × Int × (Bool × List DNode) × (Bool × List DCommand) × (Bool × List (Bool × List DNode)) × Bool × List DSaid) := (inf H).call 34 a
noncomputable def laws_toIntS (a : Bool × List Int) : Option (Bool × List Int) := (inf H).call 40 a
theorem key_laws_toIntS : H.key 40 = some h_laws_toIntS := by kernel_rfl
noncomputable def laws_toIntS_L0 (a : Bool × List Int) (out : Bool × List Int) (i : Int) : Option (Bool × List Int) := (inf H).loop 40 0 (loopCode Tryz.f40 0) (a, (out, i))
noncomputable def laws_toSight (a : DSight) : Option (Bool × List Int) := (inf H).call 15 a
noncomputable def spec_l1In (n : Int) (lo : Int) (hi : Int) : Option Bool := (inf H).call 86 (n, (lo, hi))
noncomputable def spec_l1Wide (wide : Int) : Option Bool := (inf H).call 177 wide
noncomputable def spec_l2Need (op : Int) : Option DEdge := (inf H).call 178 op
noncomputable def spec_l1Cut (wide : Int) (a : Int) : Option Int := (inf H).call 239 (wide, a)
theorem key_spec_l1Cut : H.key 239 = some h_spec_l1Cut := by kernel_rfl
noncomputable def spec_l1Cut_L0 (wide : Int) (a : Int) (out : Int) (k_ : Int) : Option Int := (inf H).loop 239 0 (loopCode Tryz.f239 0) (wide, (a, (out, k_)))
noncomputable def spec_GoodWord (wide : Int) (a : Int) : Option Bool := (inf H).call 238 (wide, a)
noncomputable def spec_l2N (wide : Int) (vars : Int) (n : DNode) : Option Bool := (inf H).call 179 (wide, (vars, n))
noncomputable def spec_l2Kind (wide : Int) (vars : Int) (t : Bool × List DNode) : Option Int := (inf H).call 123 (wide, (vars, t))
theorem key_spec_l2Kind : H.key 123 = some h_spec_l2Kind := by kernel_rfl
noncomputable def spec_l2Kind_L0 (wide : Int) (vars : Int) (pile : Bool × List Int) (t27 : Bool × List DNode) (t28 : Int) (t29 : Int) : Option (Int ⊕ (Bool × List Int)) := (inf H).loop 123 0 (loopCode Tryz.f123 0) (wide, (vars, (pile, (t27, (t28, t29)))))
noncomputable def spec_l2Kind_L2 (wide : Int) (vars : Int) (pile : Bool × List Int) (many : Int) (part : Int) (own : Int) (t27 : Bool × List DNode) (t28 : Int) (t29 : Int) : Option (Int ⊕ (Bool × List Int)) := (inf H).loop 123 2 (loopCode Tryz.f123 2) (wide, (vars, (pile, (many, (part, (own, (t27, (t28, t29))))))))
noncomputable def spec_l7Asks (p : DProgram) (t : Bool × List DNode) : Option Bool := (inf H).call 62 (p, t)
noncomputable def spec_l7Command (p : DProgram) (c : DCommand) : Option Bool := (inf H).call 230 (p, c)
theorem key_spec_l7Command : H.key 230 = some h_spec_l7Command := by kernel_rfl
noncomputable def spec_l7Command_L0 (p : DProgram) (c : DCommand) (t21 : Bool × List DChange) (t22 : Int) (t23 : Int) : Option (Bool ⊕ Unit) := (inf H).loop 230 0 (loopCode Tryz.f230 0) (p, (c, (t21, (t22, t23))))
noncomputable def spec_GoodProgram (p : DProgram) : Option Bool := (inf H).call 170 p
theorem key_spec_GoodProgram : H.key 170 = some h_spec_GoodProgram := by kernel_rfl
noncomputable def spec_GoodProgram_L0 (p : DProgram) (t18 : Bool × List DCommand) (t19 : Int) (t20 : Int) : Option (Bool ⊕ Unit) := (inf H).loop 170 0 (loopCode Tryz.f170 0) (p, (t18, (t19, t20)))
noncomputable def spec_l7Small (p : DProgram) : Option Bool := (inf H).call 110 p
noncomputable def spec_l10Need (op : Int) : Option Int := (inf H).call 272 op
noncomputable def spec_l10N (n : DSaid) : Option Bool := (inf H).call 273 n
noncomputable def spec_GoodSaid (f : Bool × List DSaid) : Option Bool := (inf H).call 245 f
theorem key_spec_GoodSaid : H.key 245 = some h_spec_GoodSaid := by kernel_rfl
noncomputable def spec_GoodSaid_L0 (pile : Int) (t11 : Bool × List DSaid) (t12 : Int) (t13 : Int) : Option (Bool ⊕ Int) := (inf H).loop 245 0 (loopCode Tryz.f245 0) (pile, (t11, (t12, t13)))
noncomputable def spec_l1Put (l : Bool × List Int) (n : Int) : Option (Bool × List Int) := (inf H).call 172 (l, n)
theorem key_spec_l1Put : H.key 172 = some h_spec_l1Put := by kernel_rfl
noncomputable def spec_l1Put_L0 (l : Bool × List Int) (n : Int) (k_ : Int) : Option Int := (inf H).loop 172 0 (loopCode Tryz.f172 0) (l, (n, k_))
noncomputable def spec_l13Tracked (f : Bool × List DSaid) : Option (Bool × List Int) := (inf H).call 207 f
theorem key_spec_l13Tracked : H.key 207 = some h_spec_l13Tracked := by kernel_rfl
noncomputable def spec_l13Tracked_L0 (out : Bool × List Int) (t10 : Bool × List DSaid) (t11 : Int) (t12 : Int) : Option (Bool × List Int) := (inf H).loop 207 0 (loopCode Tryz.f207 0) (out, (t10, (t11, t12)))
noncomputable def spec_l13Good (f : Bool × List DSaid) : Option Bool := (inf H).call 187 f
noncomputable def spec_GoodQuestion (q : DQuestion) : Option Bool := (inf H).call 133 q
theorem key_spec_GoodQuestion : H.key 133 = some h_spec_GoodQuestion := by kernel_rfl
noncomputable def spec_GoodQuestion_L0 (q : DQuestion) (t22 : Bool × List (Bool × List DNode)) (t23 : Int) (t24 : Int) : Option (Bool ⊕ Unit) := (inf H).loop 133 0 (loopCode Tryz.f133 0) (q, (t22, (t23, t24)))
noncomputable def spec_l7Many (p : DProgram) : Option Int := (inf H).call 111 p
noncomputable def spec_GoodSight (p : DProgram) (v : DSight) : Option Bool := (inf H).call 55 (p, v)
theorem key_spec_GoodSight : H.key 55 = some h_spec_GoodSight := by kernel_rfl
noncomputable def spec_GoodSight_L0 (many : Int) (t20 : Bool × List Int) (t21 : Int) (t22 : Int) : Option (Bool ⊕ Unit) := (inf H).loop 55 0 (loopCode Tryz.f55 0) (many, (t20, (t21, t22)))
noncomputable def spec_l22Sight (q : DQuestion) (v : DSight) : Option Bool := (inf H).call 78 (q, v)
noncomputable def spec_l15Many (v : DSight) : Option Int := (inf H).call 87 v
theorem key_spec_l15Many : H.key 87 = some h_spec_l15Many := by kernel_rfl
noncomputable def spec_l15Many_L0 (many : Int) (t7 : Bool × List Int) (t8 : Int) (t9 : Int) : Option Int := (inf H).loop 87 0 (loopCode Tryz.f87 0) (many, (t7, (t8, t9)))
noncomputable def spec_l15In (v : DSight) (class_ : Int) : Option (Bool × List Int) := (inf H).call 134 (v, class_)
theorem key_spec_l15In : H.key 134 = some h_spec_l15In := by kernel_rfl
noncomputable def spec_l15In_L0 (class_ : Int) (out : Bool × List Int) (t9 : Bool × List Int) (t10 : Int) (t11 : Int) : Option (Bool × List Int) := (inf H).loop 134 0 (loopCode Tryz.f134 0) (class_, (out, (t9, (t10, t11))))
noncomputable def spec_l7Of (p : DProgram) (no : Int) : Option (Bool × List Int) := (inf H).call 125 (p, no)
theorem key_spec_l7Of : H.key 125 = some h_spec_l7Of := by kernel_rfl
noncomputable def spec_l7Of_L0 (no : Int) (p : DProgram) (out : Bool × List Int) (v : Int) : Option (Bool × List Int) := (inf H).loop 125 0 (loopCode Tryz.f125 0) (no, (p, (out, v)))
noncomputable def spec_l2From (t : Bool × List DNode) (k_ : Int) : Option Int := (inf H).call 241 (t, k_)
theorem key_spec_l2From : H.key 241 = some h_spec_l2From := by kernel_rfl
noncomputable def spec_l2From_L0 (t : Bool × List DNode) (many : Int) (from_ : Int) : Option Int := (inf H).loop 241 0 (loopCode Tryz.f241 0) (t, (many, from_))
noncomputable def spec_l1Both (wide : Int) (a : Int) (b : Int) : Option Bool := (inf H).call 282 (wide, (a, b))
noncomputable def spec_DivWord (wide : Int) (a : Int) (b : Int) : Option (Int × Int × Bool) := (inf H).call 267 (wide, (a, b))
noncomputable def spec_l1Shift (wide : Int) (a : Int) (by_ : Int) (left_ : Bool) : Option Int := (inf H).call 268 (wide, (a, (by_, left_)))
theorem key_spec_l1Shift : H.key 268 = some h_spec_l1Shift := by kernel_rfl
noncomputable def spec_l1Shift_L0 (wide : Int) (a : Int) (by_ : Int) (left_ : Bool) : Option Int := (inf H).loop 268 0 (loopCode Tryz.f268 0) (wide, (a, (by_, left_)))
noncomputable def spec_l2Bool (is : Bool) : Option Int := (inf H).call 269 is
noncomputable def spec_l1Signed (wide : Int) (a : Int) : Option Int := (inf H).call 270 (wide, a)
noncomputable def spec_l2Do (wide : Int) (op : Int) (a : Int) (b : Int) : Option Int := (inf H).call 240 (wide, (op, (a, b)))
noncomputable def spec_l2Value (wide : Int) (t : Bool × List DNode) (k_ : Int) (state : Bool × List Int) : Option Int := (inf H).call 180 (wide, (t, (k_, state)))
noncomputable def spec_l7Holds (p : DProgram) (t : Bool × List DNode) (s : Bool × List Int) : Option Bool := (inf H).call 124 (p, (t, s))
noncomputable def spec_l14Letter (q : DQuestion) (no : Int) : Option Int := (inf H).call 135 (q, no)
theorem key_spec_l14Letter : H.key 135 = some h_spec_l14Letter := by kernel_rfl
noncomputable def spec_l14Letter_L0 (no : Int) (q : DQuestion) (out : Int) (t9 : Bool × List (Bool × List DNode)) (t10 : Int) (t11 : Int) : Option Int := (inf H).loop 135 0 (loopCode Tryz.f135 0) (no, (q, (out, (t9, (t10, t11)))))
noncomputable def spec_l22Fit (q : DQuestion) (v : DSight) : Option Bool := (inf H).call 79 (q, v)
theorem key_spec_l22Fit : H.key 79 = some h_spec_l22Fit := by kernel_rfl
noncomputable def spec_l22Fit_L0 (q : DQuestion) (v : DSight) (class_ : Int) : Option (Bool ⊕ Unit) := (inf H).loop 79 0 (loopCode Tryz.f79 0) (q, (v, class_))
noncomputable def spec_l22Fit_L2 (q : DQuestion) (v : DSight) (class_ : Int) (in_ : Bool × List Int) (t18 : Bool × List Int) (t19 : Int) (t20 : Int) : Option (Bool ⊕ Unit) := (inf H).loop 79 2 (loopCode Tryz.f79 2) (q, (v, (class_, (in_, (t18, (t19, t20))))))
noncomputable def spec_l22Letter (q : DQuestion) (v : DSight) (class_ : Int) : Option Int := (inf H).call 88 (q, (v, class_))
noncomputable def spec_ClassLetter (q : DQuestion) (v : DSight) (class_ : Int) : Option (Int × Bool) := (inf H).call 37 (q, (v, class_))
noncomputable def impl_isWide (n : Int) : Option Bool := (inf H).call 232 n
noncomputable def impl_isVars (n : Int) : Option Bool := (inf H).call 233 n
noncomputable def impl_operandsOf (op : Int) : Option DEdge := (inf H).call 242 op
noncomputable def impl_mask (wide : Int) : Option Int := (inf H).call 149 wide
noncomputable def impl_GoodWord (wide : Int) (a : Int) : Option Bool := (inf H).call 271 (wide, a)
noncomputable def impl_isLeafRight (wide : Int) (vars : Int) (x : DNode) : Option Bool := (inf H).call 243 (wide, (vars, x))
noncomputable def impl_GoodTerm_1 (own : Int) (a1 : Int) : Option Bool := (inf H).call 244 (own, a1)
noncomputable def slices_IndexFunc_int_by_GoodTerm_1 (s : Bool × List Int) (f : Int × Unit) : Option Int := (inf H).call 129 (s, f)
theorem key_slices_IndexFunc_int_by_GoodTerm_1 : H.key 129 = some h_slices_IndexFunc_int_by_GoodTerm_1 := by kernel_rfl
noncomputable def slices_IndexFunc_int_by_GoodTerm_1_L0 (s : Bool × List Int) (f : Int × Unit) (t7 : Int) (t8 : Int) : Option (Int ⊕ Unit) := (inf H).loop 129 0 (loopCode Tryz.f129 0) (s, (f, (t7, t8)))
noncomputable def slices_ContainsFunc_int_by_GoodTerm_1 (s : Bool × List Int) (f : Int × Unit) : Option Bool := (inf H).call 70 (s, f)
noncomputable def impl_GoodTerm (wide : Int) (vars : Int) (t : Bool × List DNode) : Option Bool := (inf H).call 181 (wide, (vars, t))
theorem key_impl_GoodTerm : H.key 181 = some h_impl_GoodTerm := by kernel_rfl
noncomputable def impl_GoodTerm_L0 (wide : Int) (vars : Int) (stack : Bool × List Int) (t33 : Bool × List DNode) (t34 : Int) (t35 : Int) : Option (Bool ⊕ (Bool × List Int)) := (inf H).loop 181 0 (loopCode Tryz.f181 0) (wide, (vars, (stack, (t33, (t34, t35)))))
noncomputable def impl_kindOf (t : Bool × List DNode) : Option Int := (inf H).call 182 t
noncomputable def impl_isTermOf (wide : Int) (vars : Int) (t : Bool × List DNode) (kind : Int) : Option Bool := (inf H).call 126 (wide, (vars, (t, kind)))
noncomputable def impl_Program_isCondition (p : DProgram) (t : Bool × List DNode) : Option Bool := (inf H).call 67 (p, t)
noncomputable def impl_Program_isCommand (p : DProgram) (c : DCommand) : Option Bool := (inf H).call 236 (p, c)
theorem key_impl_Program_isCommand : H.key 236 = some h_impl_Program_isCommand := by kernel_rfl
noncomputable def impl_Program_isCommand_L0 (p : DProgram) (c : DCommand) (t13 : Bool × List DChange) (t14 : Int) (t15 : Int) : Option (Bool ⊕ Unit) := (inf H).loop 236 0 (loopCode Tryz.f236 0) (p, (c, (t13, (t14, t15))))
noncomputable def impl_GoodProgram_1 (c : DCommand) (a1 : DProgram) : Option Bool := (inf H).call 235 (c, a1)
noncomputable def slices_IndexFunc_Command_by_GoodProgram_1 (s : Bool × List DCommand) (f : DProgram × Unit) : Option Int := (inf H).call 266 (s, f)
theorem key_slices_IndexFunc_Command_by_GoodProgram_1 : H.key 266 = some h_slices_IndexFunc_Command_by_GoodProgram_1 := by kernel_rfl
noncomputable def slices_IndexFunc_Command_by_GoodProgram_1_L0 (s : Bool × List DCommand) (f : DProgram × Unit) (t7 : Int) (t8 : Int) : Option (Int ⊕ Unit) := (inf H).loop 266 0 (loopCode Tryz.f266 0) (s, (f, (t7, t8)))
noncomputable def slices_ContainsFunc_Command_by_GoodProgram_1 (s : Bool × List DCommand) (f : DProgram × Unit) : Option Bool := (inf H).call 234 (s, f)
noncomputable def impl_GoodProgram (p : DProgram) : Option Bool := (inf H).call 174 p
noncomputable def impl_isSmall (p : DProgram) : Option Bool := (inf H).call 116 p
noncomputable def impl_operandsOfSaid (op : Int) : Option Int := (inf H).call 151 op
noncomputable def impl_isSaid (x : DSaid) : Option Bool := (inf H).call 274 x
noncomputable def impl_GoodSaid (f : Bool × List DSaid) : Option Bool := (inf H).call 246 f
theorem key_impl_GoodSaid : H.key 246 = some h_impl_GoodSaid := by kernel_rfl
noncomputable def impl_GoodSaid_L0 (values : Int) (t15 : Bool × List DSaid) (t16 : Int) (t17 : Int) : Option (Bool ⊕ Int) := (inf H).loop 246 0 (loopCode Tryz.f246 0) (values, (t15, (t16, t17)))
noncomputable def slices_Clone_int (s : Bool × List Int) : Option (Bool × List Int) := (inf H).call 227 s
noncomputable def impl_operandIndexes (f : Bool × List DSaid) : Option (Bool × List (Bool × List Int)) := (inf H).call 215 f
theorem key_impl_operandIndexes : H.key 215 = some h_impl_operandIndexes := by kernel_rfl
noncomputable def impl_operandIndexes_L0 (out : Bool × List (Bool × List Int)) (stack : Bool × List Int) (t10 : Bool × List DSaid) (t11 : Int) (t12 : Int) : Option (Bool × List (Bool × List Int)) := (inf H).loop 215 0 (loopCode Tryz.f215 0) (out, (stack, (t10, (t11, t12))))
noncomputable def slices_Sort_int (s : Bool × List Int) : Option (Bool × List Int) := (inf H).call 257 s
noncomputable def slices_Compact_int (s : Bool × List Int) : Option (Bool × List Int) := (inf H).call 258 s
noncomputable def impl_tracked (f : Bool × List DSaid) : Option (Bool × List Int) := (inf H).call 212 f
theorem key_impl_tracked : H.key 212 = some h_impl_tracked := by kernel_rfl
noncomputable def impl_tracked_L0 (out : Bool × List Int) (operands : Bool × List (Bool × List Int)) (t13 : Bool × List DSaid) (t14 : Int) (t15 : Int) : Option (Bool × List Int) := (inf H).loop 212 0 (loopCode Tryz.f212 0) (out, (operands, (t13, (t14, t15))))
noncomputable def impl_isTracked (f : Bool × List DSaid) : Option Bool := (inf H).call 188 f
noncomputable def impl_GoodQuestion_1 (t : Bool × List DNode) (a1 : DQuestion) : Option Bool := (inf H).call 190 (t, a1)
noncomputable def slices_IndexFunc_Node_by_GoodQuestion_1 (s : Bool × List (Bool × List DNode)) (f : DQuestion × Unit) : Option Int := (inf H).call 247 (s, f)
theorem key_slices_IndexFunc_Node_by_GoodQuestion_1 : H.key 247 = some h_slices_IndexFunc_Node_by_GoodQuestion_1 := by kernel_rfl
noncomputable def slices_IndexFunc_Node_by_GoodQuestion_1_L0 (s : Bool × List (Bool × List DNode)) (f : DQuestion × Unit) (t7 : Int) (t8 : Int) : Option (Int ⊕ Unit) := (inf H).loop 247 0 (loopCode Tryz.f247 0) (s, (f, (t7, t8)))
noncomputable def slices_ContainsFunc_Node_by_GoodQuestion_1 (s : Bool × List (Bool × List DNode)) (f : DQuestion × Unit) : Option Bool := (inf H).call 189 (s, f)
noncomputable def impl_GoodQuestion (q : DQuestion) : Option Bool := (inf H).call 137 q
noncomputable def impl_Program_states (p : DProgram) : Option Int := (inf H).call 118 p
noncomputable def impl_isSight (v : DSight) (states : Int) : Option Bool := (inf H).call 117 (v, states)
theorem key_impl_isSight : H.key 117 = some h_impl_isSight := by kernel_rfl
noncomputable def impl_isSight_L0 (states : Int) (v : DSight) (classes : Int) (t9 : Bool × List Int) (t10 : Int) (t11 : Int) : Option (Bool ⊕ Unit) := (inf H).loop 117 0 (loopCode Tryz.f117 0) (states, (v, (classes, (t9, (t10, t11)))))
noncomputable def impl_GoodSight (p : DProgram) (v : DSight) : Option Bool := (inf H).call 58 (p, v)
noncomputable def impl_isSightOf (q : DQuestion) (v : DSight) : Option Bool := (inf H).call 82 (q, v)
noncomputable def slices_Max_int (x : Bool × List Int) : Option Int := (inf H).call 183 x
theorem key_slices_Max_int : H.key 183 = some h_slices_Max_int := by kernel_rfl
noncomputable def slices_Max_int_L0 (x : Bool × List Int) (m : Int) (i : Int) : Option Int := (inf H).loop 183 0 (loopCode Tryz.f183 0) (x, (m, i))
noncomputable def impl_Sight_classes (v : DSight) : Option Int := (inf H).call 127 v
noncomputable def bits_Mul64 (x : Int) (y : Int) : Option (Int × Int) := (inf H).call 249 (x, y)
noncomputable def bits_Mul (x : Int) (y : Int) : Option (Int × Int) := (inf H).call 191 (x, y)
noncomputable def slices_Repeat_int (x : Bool × List Int) (count : Int) : Option (Bool × List Int) := (inf H).call 138 (x, count)
theorem key_slices_Repeat_int : H.key 138 = some h_slices_Repeat_int := by kernel_rfl
noncomputable def slices_Repeat_int_L0 (newslice : Bool × List Int) (n : Int) : Option (Bool × List Int) := (inf H).loop 138 0 (loopCode Tryz.f138 0) (newslice, n)
noncomputable def impl_Program_stateOf (p : DProgram) (no : Int) : Option (Bool × List Int) := (inf H).call 99 (p, no)
theorem key_impl_Program_stateOf : H.key 99 = some h_impl_Program_stateOf := by kernel_rfl
noncomputable def impl_Program_stateOf_L0 (no : Int) (p : DProgram) (out : Bool × List Int) (t9 : Int) (t10 : Int) : Option (Bool × List Int) := (inf H).loop 99 0 (loopCode Tryz.f99 0) (no, (p, (out, (t9, t10))))
noncomputable def impl_areWords (wide : Int) (a : Int) (b : Int) : Option Bool := (inf H).call 275 (wide, (a, b))
noncomputable def bits_Div64 (hi : Int) (lo : Int) (y : Int) : Option (Int × Int) := (inf H).call 276 (hi, (lo, y))
noncomputable def impl_DivWord (wide : Int) (a : Int) (b : Int) : Option (Int × Int × Bool) := (inf H).call 251 (wide, (a, b))
noncomputable def impl_shift (wide : Int) (a : Int) (by_ : Int) (left_ : Bool) : Option Int := (inf H).call 252 (wide, (a, (by_, left_)))
noncomputable def impl_truth (holds : Bool) : Option Int := (inf H).call 253 holds
noncomputable def impl_signed (wide : Int) (a : Int) : Option Int := (inf H).call 254 (wide, a)
noncomputable def impl_apply (wide : Int) (op : Int) (a : Int) (b : Int) : Option Int := (inf H).call 198 (wide, (op, (a, b)))
noncomputable def impl_valueOf (wide : Int) (t : Bool × List DNode) (state : Bool × List Int) : Option Int := (inf H).call 148 (wide, (t, state))
theorem key_impl_valueOf : H.key 148 = some h_impl_valueOf := by kernel_rfl
noncomputable def impl_valueOf_L0 (wide : Int) (state : Bool × List Int) (stack : Bool × List Int) (t12 : Bool × List DNode) (t13 : Int) (t14 : Int) : Option (Bool × List Int) := (inf H).loop 148 0 (loopCode Tryz.f148 0) (wide, (state, (stack, (t12, (t13, t14)))))
noncomputable def impl_Program_holds (p : DProgram) (t : Bool × List DNode) (s : Bool × List Int) : Option Bool := (inf H).call 98 (p, (t, s))
noncomputable def impl_Question_letterOf (q : DQuestion) (no : Int) : Option Int := (inf H).call 139 (q, no)
theorem key_impl_Question_letterOf : H.key 139 = some h_impl_Question_letterOf := by kernel_rfl
noncomputable def impl_Question_letterOf_L0 (q : DQuestion) (s : Bool × List Int) (letter : Int) (t14 : Bool × List (Bool × List DNode)) (t15 : Int) (t16 : Int) : Option Int := (inf H).loop 139 0 (loopCode Tryz.f139 0) (q, (s, (letter, (t14, (t15, t16)))))
noncomputable def impl_isFit (q : DQuestion) (v : DSight) : Option Bool := (inf H).call 83 (q, v)
theorem key_impl_isFit : H.key 83 = some h_impl_isFit := by kernel_rfl
noncomputable def impl_isFit_L0 (q : DQuestion) (letters : Bool × List Int) (t14 : Bool × List Int) (t15 : Int) (t16 : Int) : Option (((Bool × List Int) × Bool) ⊕ (Bool × List Int)) := (inf H).loop 83 0 (loopCode Tryz.f83 0) (q, (letters, (t14, (t15, t16))))
noncomputable def impl_isClass (p : DProgram) (v : DSight) (class_ : Int) : Option Bool := (inf H).call 89 (p, (v, class_))
noncomputable def slices_Index_int (s : Bool × List Int) (v : Int) : Option Int := (inf H).call 130 (s, v)
theorem key_slices_Index_int : H.key 130 = some h_slices_Index_int := by kernel_rfl
noncomputable def slices_Index_int_L0 (s : Bool × List Int) (v : Int) (t7 : Int) (t8 : Int) : Option (Int ⊕ Unit) := (inf H).loop 130 0 (loopCode Tryz.f130 0) (s, (v, (t7, t8)))
noncomputable def impl_classLetter (q : DQuestion) (v : DSight) (class_ : Int) : Option Int := (inf H).call 90 (q, (v, class_))
noncomputable def impl_ClassLetter (q : DQuestion) (v : DSight) (class_ : Int) : Option (Int × Bool) := (inf H).call 38 (q, (v, class_))
noncomputable def laws_eqNode (a : DNode) (b : DNode) : Option Bool := (inf H).call 73 (a, b)
noncomputable def laws_eqNodeS (a : Bool × List DNode) (b : Bool × List DNode) : Option Bool := (inf H).call 28 (a, b)
theorem key_laws_eqNodeS : H.key 28 = some h_laws_eqNodeS := by kernel_rfl
noncomputable def laws_eqNodeS_L0 (a : Bool × List DNode) (b : Bool × List DNode) (i : Int) : Option (Bool ⊕ Unit) := (inf H).loop 28 0 (loopCode Tryz.f28 0) (a, (b, i))
noncomputable def laws_eqChange (a : DChange) (b : DChange) : Option Bool := (inf H).call 237 (a, b)
noncomputable def laws_eqChangeS (a : Bool × List DChange) (b : Bool × List DChange) : Option Bool := (inf H).call 176 (a, b)
theorem key_laws_eqChangeS : H.key 176 = some h_laws_eqChangeS := by kernel_rfl
noncomputable def laws_eqChangeS_L0 (a : Bool × List DChange) (b : Bool × List DChange) (i : Int) : Option (Bool ⊕ Unit) := (inf H).loop 176 0 (loopCode Tryz.f176 0) (a, (b, i))
noncomputable def laws_eqCommand (a : DCommand) (b : DCommand) : Option Bool := (inf H).call 121 (a, b)
noncomputable def laws_eqCommandS (a : Bool × List DCommand) (b : Bool × List DCommand) : Option Bool := (inf H).call 60 (a, b)
theorem key_laws_eqCommandS : H.key 60 = some h_laws_eqCommandS := by kernel_rfl
noncomputable def laws_eqCommandS_L0 (a : Bool × List DCommand) (b : Bool × List DCommand) (i : Int) : Option (Bool ⊕ Unit) := (inf H).loop 60 0 (loopCode Tryz.f60 0) (a, (b, i))
noncomputable def laws_eqProgram (a : DProgram) (b : DProgram) : Option Bool := (inf H).call 18 (a, b)
noncomputable def laws_eqNodeSS (a : Bool × List (Bool × List DNode)) (b : Bool × List (Bool × List DNode)) : Option Bool := (inf H).call 84 (a, b)
theorem key_laws_eqNodeSS : H.key 84 = some h_laws_eqNodeSS := by kernel_rfl
noncomputable def laws_eqNodeSS_L0 (a : Bool × List (Bool × List DNode)) (b : Bool × List (Bool × List DNode)) (i : Int) : Option (Bool ⊕ Unit) := (inf H).loop 84 0 (loopCode Tryz.f84 0) (a, (b, i))
noncomputable def laws_eqSaid (a : DSaid) (b : DSaid) : Option Bool := (inf H).call 140 (a, b)
noncomputable def laws_eqSaidS (a : Bool × List DSaid) (b : Bool × List DSaid) : Option Bool := (inf H).call 85 (a, b)
theorem key_laws_eqSaidS : H.key 85 = some h_laws_eqSaidS := by kernel_rfl
noncomputable def laws_eqSaidS_L0 (a : Bool × List DSaid) (b : Bool × List DSaid) (i : Int) : Option (Bool ⊕ Unit) := (inf H).loop 85 0 (loopCode Tryz.f85 0) (a, (b, i))
noncomputable def laws_eqQuestion (a : DQuestion) (b : DQuestion) : Option Bool := (inf H).call 36 (a, b)
noncomputable def laws_eqIntS (a : Bool × List Int) (b : Bool × List Int) : Option Bool := (inf H).call 17 (a, b)
theorem key_laws_eqIntS : H.key 17 = some h_laws_eqIntS := by kernel_rfl
noncomputable def laws_eqIntS_L0 (a : Bool × List Int) (b : Bool × List Int) (i : Int) : Option (Bool ⊕ Unit) := (inf H).loop 17 0 (loopCode Tryz.f17 0) (a, (b, i))
noncomputable def laws_eqSight (a : DSight) (b : DSight) : Option Bool := (inf H).call 19 (a, b)
noncomputable def laws_FnExactClassLetter (aQ : DQuestion) (aV : DSight) (aClass : Int) : Option Bool := (inf H).call 7 (aQ, (aV, aClass))
theorem laws_szNodeS_eq (a : Bool × List DNode) (left_ : Int) : laws_szNodeS a left_ =
 bif decide ((IntKind.i64.wrap (left_ - (a.2.length : Int))) < 0) then
 some (-1)
else 
 some (IntKind.i64.wrap (left_ - (a.2.length : Int))) := Eq.trans (inf_call_eq (H := H) 24 (a, left_)) (by kernel_rfl)
theorem laws_szChange_eq (a : DChange) (left_ : Int) : laws_szChange a left_ =
(laws_szNodeS a.2 left_).bind fun r =>
 bif decide (r < 0) then
 some (-1)
else 
 some r := Eq.trans (inf_call_eq (H := H) 229 (a, left_)) (by kernel_rfl)
theorem laws_szChangeS_L0_eq (a : Bool × List DChange) (left_ : Int) (i : Int) : laws_szChangeS_L0 a left_ i =
 bif decide (i < (a.2.length : Int)) then
 bif decide (0 ≤ i) then
 bif decide (i < (a.2.length : Int)) then
(laws_szChange (a.2.getD (Int.toNat i) (0, (true, []))) left_).bind fun r =>
 bif decide (r < 0) then
 some (.inl (-1))
else 
(laws_szChangeS_L0 a r (IntKind.i64.wrap (i + 1))).bind fun r => some r
else none
else none
else 
 some (.inr left_) := Eq.trans (inf_loop_eq (H := H) 169 0 (loopCode Tryz.f169 0) (a, (left_, i)) key_laws_szChangeS) (by kernel_rfl)
theorem laws_szChangeS_eq (a : Bool × List DChange) (left_ : Int) : laws_szChangeS a left_ =
 bif decide ((IntKind.i64.wrap (left_ - (a.2.length : Int))) < 0) then
 some (-1)
else 
(laws_szChangeS_L0 a (IntKind.i64.wrap (left_ - (a.2.length : Int))) 0).bind fun r =>
 match r with
| .inl y =>
 some y
| .inr z =>
 some z := Eq.trans (inf_call_eq (H := H) 169 (a, left_)) (by kernel_rfl)
theorem laws_szCommand_eq (a : DCommand) (left_ : Int) : laws_szCommand a left_ =
(laws_szNodeS a.1 left_).bind fun r =>
 bif decide (r < 0) then
 some (-1)
else 
(laws_szChangeS a.2 r).bind fun r1 =>
 bif decide (r1 < 0) then
 some (-1)
else 
 some r1 := Eq.trans (inf_call_eq (H := H) 109 (a, left_)) (by kernel_rfl)
theorem laws_szCommandS_L0_eq (a : Bool × List DCommand) (left_ : Int) (i : Int) : laws_szCommandS_L0 a left_ i =
 bif decide (i < (a.2.length : Int)) then
 bif decide (0 ≤ i) then
 bif decide (i < (a.2.length : Int)) then
(laws_szCommand (a.2.getD (Int.toNat i) ((true, []), (true, []))) left_).bind fun r =>
 bif decide (r < 0) then
 some (.inl (-1))
else 
(laws_szCommandS_L0 a r (IntKind.i64.wrap (i + 1))).bind fun r => some r
else none
else none
else 
 some (.inr left_) := Eq.trans (inf_loop_eq (H := H) 53 0 (loopCode Tryz.f53 0) (a, (left_, i)) key_laws_szCommandS) (by kernel_rfl)
theorem laws_szCommandS_eq (a : Bool × List DCommand) (left_ : Int) : laws_szCommandS a left_ =
 bif decide ((IntKind.i64.wrap (left_ - (a.2.length : Int))) < 0) then
 some (-1)
else 
(laws_szCommandS_L0 a (IntKind.i64.wrap (left_ - (a.2.length : Int))) 0).bind fun r =>
 match r with
| .inl y =>
 some y
| .inr z =>
 some z := Eq.trans (inf_call_eq (H := H) 53 (a, left_)) (by kernel_rfl)
theorem laws_szProgram_eq (a : DProgram) (left_ : Int) : laws_szProgram a left_ =
(laws_szNodeS a.2.2.1 left_).bind fun r =>
 bif decide (r < 0) then
 some (-1)
else 
(laws_szCommandS a.2.2.2 r).bind fun r1 =>
 bif decide (r1 < 0) then
 some (-1)
else 
 some r1 := Eq.trans (inf_call_eq (H := H) 11 (a, left_)) (by kernel_rfl)
theorem laws_szNodeSS_L0_eq (a : Bool × List (Bool × List DNode)) (left_ : Int) (i : Int) : laws_szNodeSS_L0 a left_ i =
 bif decide (i < (a.2.length : Int)) then
 bif decide (0 ≤ i) then
 bif decide (i < (a.2.length : Int)) then
(laws_szNodeS (a.2.getD (Int.toNat i) (true, [])) left_).bind fun r =>
 bif decide (r < 0) then
 some (.inl (-1))
else 
(laws_szNodeSS_L0 a r (IntKind.i64.wrap (i + 1))).bind fun r => some r
else none
else none
else 
 some (.inr left_) := Eq.trans (inf_loop_eq (H := H) 76 0 (loopCode Tryz.f76 0) (a, (left_, i)) key_laws_szNodeSS) (by kernel_rfl)
theorem laws_szNodeSS_eq (a : Bool × List (Bool × List DNode)) (left_ : Int) : laws_szNodeSS a left_ =
 bif decide ((IntKind.i64.wrap (left_ - (a.2.length : Int))) < 0) then
 some (-1)
else 
(laws_szNodeSS_L0 a (IntKind.i64.wrap (left_ - (a.2.length : Int))) 0).bind fun r =>
 match r with
| .inl y =>
 some y
| .inr z =>
 some z := Eq.trans (inf_call_eq (H := H) 76 (a, left_)) (by kernel_rfl)
theorem laws_szSaidS_eq (a : Bool × List DSaid) (left_ : Int) : laws_szSaidS a left_ =
 bif decide ((IntKind.i64.wrap (left_ - (a.2.length : Int))) < 0) then
 some (-1)
else 
 some (IntKind.i64.wrap (left_ - (a.2.length : Int))) := Eq.trans (inf_call_eq (H := H) 77 (a, left_)) (by kernel_rfl)
theorem laws_szQuestion_eq (a : DQuestion) (left_ : Int) : laws_szQuestion a left_ =
(laws_szProgram a.1 left_).bind fun r =>
 bif decide (r < 0) then
 some (-1)
else 
(laws_szNodeSS a.2.1 r).bind fun r1 =>
 bif decide (r1 < 0) then
 some (-1)
else 
(laws_szSaidS a.2.2 r1).bind fun r2 =>
 bif decide (r2 < 0) then
 some (-1)
else 
 some r2 := Eq.trans (inf_call_eq (H := H) 32 (a, left_)) (by kernel_rfl)
theorem laws_szIntS_eq (a : Bool × List Int) (left_ : Int) : laws_szIntS a left_ =
 bif decide ((IntKind.i64.wrap (left_ - (a.2.length : Int))) < 0) then
 some (-1)
else 
 some (IntKind.i64.wrap (left_ - (a.2.length : Int))) := Eq.trans (inf_call_eq (H := H) 54 (a, left_)) (by kernel_rfl)
theorem laws_szSight_eq (a : DSight) (left_ : Int) : laws_szSight a left_ =
(laws_szIntS a left_).bind fun r =>
 bif decide (r < 0) then
 some (-1)
else 
 some r := Eq.trans (inf_call_eq (H := H) 12 (a, left_)) (by kernel_rfl)
theorem laws_toNode_eq (a : DNode) : laws_toNode a =
 some (a.1, a.2) := Eq.trans (inf_call_eq (H := H) 66 a) (by kernel_rfl)
theorem laws_toNodeS_L0_eq (a : Bool × List DNode) (out : Bool × List DNode) (i : Int) : laws_toNodeS_L0 a out i =
 bif decide (i < (a.2.length : Int)) then
 bif decide (0 ≤ i) then
 bif decide (i < (a.2.length : Int)) then
(laws_toNode (a.2.getD (Int.toNat i) (0, 0))).bind fun r =>
 bif decide (0 ≤ i) then
 bif decide (i < (out.2.length : Int)) then
(laws_toNodeS_L0 a (out.1, (out.2.set (Int.toNat i) r)) (IntKind.i64.wrap (i + 1))).bind fun r => some r
else none
else none
else none
else none
else 
 some (out.1, out.2) := Eq.trans (inf_loop_eq (H := H) 26 0 (loopCode Tryz.f26 0) (a, (out, i)) key_laws_toNodeS) (by kernel_rfl)
theorem laws_toNodeS_eq (a : Bool × List DNode) : laws_toNodeS a =
 bif decide (0 ≤ (a.2.length : Int)) then
 bif decide ((a.2.length : Int) ≤ lim) then
 bif decide ((a.2.length : Int) ≤ (a.2.length : Int)) then
 bif decide ((a.2.length : Int) ≤ lim) then
(laws_toNodeS_L0 a (false, (List.replicate (Int.toNat (a.2.length : Int)) ((0, 0) : DNode))) 0).bind fun r =>
 some (r.1, r.2)
else none
else none
else none
else none := Eq.trans (inf_call_eq (H := H) 26 a) (by kernel_rfl)
theorem laws_toChange_eq (a : DChange) : laws_toChange a =
(laws_toNodeS a.2).bind fun r =>
 some (a.1, (r.1, r.2)) := Eq.trans (inf_call_eq (H := H) 231 a) (by kernel_rfl)
theorem laws_toChangeS_L0_eq (a : Bool × List DChange) (out : Bool × List DChange) (i : Int) : laws_toChangeS_L0 a out i =
 bif decide (i < (a.2.length : Int)) then
 bif decide (0 ≤ i) then
 bif decide (i < (a.2.length : Int)) then
(laws_toChange (a.2.getD (Int.toNat i) (0, (true, [])))).bind fun r =>
 bif decide (0 ≤ i) then
 bif decide (i < (out.2.length : Int)) then
(laws_toChangeS_L0 a (out.1, (out.2.set (Int.toNat i) (r.1, (r.2.1, r.2.2)))) (IntKind.i64.wrap (i + 1))).bind fun r => some r
else none
else none
else none
else none
else 
 some (out.1, out.2) := Eq.trans (inf_loop_eq (H := H) 173 0 (loopCode Tryz.f173 0) (a, (out, i)) key_laws_toChangeS) (by kernel_rfl)
theorem laws_toChangeS_eq (a : Bool × List DChange) : laws_toChangeS a =
 bif decide (0 ≤ (a.2.length : Int)) then
 bif decide ((a.2.length : Int) ≤ lim) then
 bif decide ((a.2.length : Int) ≤ (a.2.length : Int)) then
 bif decide ((a.2.length : Int) ≤ lim) then
(laws_toChangeS_L0 a (false, (List.replicate (Int.toNat (a.2.length : Int)) ((0, (true, [])) : DChange))) 0).bind fun r =>
 some (r.1, r.2)
else none
else none
else none
else none := Eq.trans (inf_call_eq (H := H) 173 a) (by kernel_rfl)
theorem laws_toCommand_eq (a : DCommand) : laws_toCommand a =
(laws_toNodeS a.1).bind fun r =>
(laws_toChangeS a.2).bind fun r1 =>
 some ((r.1, r.2), (r1.1, r1.2)) := Eq.trans (inf_call_eq (H := H) 115 a) (by kernel_rfl)
theorem laws_toCommandS_L0_eq (a : Bool × List DCommand) (out : Bool × List DCommand) (i : Int) : laws_toCommandS_L0 a out i =
 bif decide (i < (a.2.length : Int)) then
 bif decide (0 ≤ i) then
 bif decide (i < (a.2.length : Int)) then
(laws_toCommand (a.2.getD (Int.toNat i) ((true, []), (true, [])))).bind fun r =>
 bif decide (0 ≤ i) then
 bif decide (i < (out.2.length : Int)) then
(laws_toCommandS_L0 a (out.1, (out.2.set (Int.toNat i) ((r.1.1, r.1.2), (r.2.1, r.2.2)))) (IntKind.i64.wrap (i + 1))).bind fun r => some r
else none
else none
else none
else none
else 
 some (out.1, out.2) := Eq.trans (inf_loop_eq (H := H) 57 0 (loopCode Tryz.f57 0) (a, (out, i)) key_laws_toCommandS) (by kernel_rfl)
theorem laws_toCommandS_eq (a : Bool × List DCommand) : laws_toCommandS a =
 bif decide (0 ≤ (a.2.length : Int)) then
 bif decide ((a.2.length : Int) ≤ lim) then
 bif decide ((a.2.length : Int) ≤ (a.2.length : Int)) then
 bif decide ((a.2.length : Int) ≤ lim) then
(laws_toCommandS_L0 a (false, (List.replicate (Int.toNat (a.2.length : Int)) (((true, []), (true, [])) : DCommand))) 0).bind fun r =>
 some (r.1, r.2)
else none
else none
else none
else none := Eq.trans (inf_call_eq (H := H) 57 a) (by kernel_rfl)
theorem laws_toProgram_eq (a : DProgram) : laws_toProgram a =
(laws_toNodeS a.2.2.1).bind fun r =>
(laws_toCommandS a.2.2.2).bind fun r1 =>
 some (a.1, (a.2.1, ((r.1, r.2), (r1.1, r1.2)))) := Eq.trans (inf_call_eq (H := H) 14 a) (by kernel_rfl)
theorem laws_toNodeSS_L0_eq (a : Bool × List (Bool × List DNode)) (out : Bool × List (Bool × List DNode)) (i : Int) : laws_toNodeSS_L0 a out i =
 bif decide (i < (a.2.length : Int)) then
 bif decide (0 ≤ i) then
 bif decide (i < (a.2.length : Int)) then
(laws_toNodeS (a.2.getD (Int.toNat i) (true, []))).bind fun r =>
 bif decide (0 ≤ i) then
 bif decide (i < (out.2.length : Int)) then
(laws_toNodeSS_L0 a (out.1, (out.2.set (Int.toNat i) (r.1, r.2))) (IntKind.i64.wrap (i + 1))).bind fun r => some r
else none
else none
else none
else none
else 
 some (out.1, out.2) := Eq.trans (inf_loop_eq (H := H) 80 0 (loopCode Tryz.f80 0) (a, (out, i)) key_laws_toNodeSS) (by kernel_rfl)
theorem laws_toNodeSS_eq (a : Bool × List (Bool × List DNode)) : laws_toNodeSS a =
 bif decide (0 ≤ (a.2.length : Int)) then
 bif decide ((a.2.length : Int) ≤ lim) then
 bif decide ((a.2.length : Int) ≤ (a.2.length : Int)) then
 bif decide ((a.2.length : Int) ≤ lim) then
(laws_toNodeSS_L0 a (false, (List.replicate (Int.toNat (a.2.length : Int)) ((true, []) : Bool × List DNode))) 0).bind fun r =>
 some (r.1, r.2)
else none
else none
else none
else none := Eq.trans (inf_call_eq (H := H) 80 a) (by kernel_rfl)
theorem laws_toSaid_eq (a : DSaid) : laws_toSaid a =
 some (a.1, a.2) := Eq.trans (inf_call_eq (H := H) 136 a) (by kernel_rfl)
theorem laws_toSaidS_L0_eq (a : Bool × List DSaid) (out : Bool × List DSaid) (i : Int) : laws_toSaidS_L0 a out i =
 bif decide (i < (a.2.length : Int)) then
 bif decide (0 ≤ i) then
 bif decide (i < (a.2.length : Int)) then
(laws_toSaid (a.2.getD (Int.toNat i) (0, 0))).bind fun r =>
 bif decide (0 ≤ i) then
 bif decide (i < (out.2.length : Int)) then
(laws_toSaidS_L0 a (out.1, (out.2.set (Int.toNat i) r)) (IntKind.i64.wrap (i + 1))).bind fun r => some r
else none
else none
else none
else none
else 
 some (out.1, out.2) := Eq.trans (inf_loop_eq (H := H) 81 0 (loopCode Tryz.f81 0) (a, (out, i)) key_laws_toSaidS) (by kernel_rfl)
theorem laws_toSaidS_eq (a : Bool × List DSaid) : laws_toSaidS a =
 bif decide (0 ≤ (a.2.length : Int)) then
 bif decide ((a.2.length : Int) ≤ lim) then
 bif decide ((a.2.length : Int) ≤ (a.2.length : Int)) then
 bif decide ((a.2.length : Int) ≤ lim) then
(laws_toSaidS_L0 a (false, (List.replicate (Int.toNat (a.2.length : Int)) ((0, 0) : DSaid))) 0).bind fun r =>
 some (r.1, r.2)
else none
else none
else none
else none := Eq.trans (inf_call_eq (H := H) 81 a) (by kernel_rfl)
theorem laws_toQuestion_eq (a : DQuestion) : laws_toQuestion a =
(laws_toProgram a.1).bind fun r =>
(laws_toNodeSS a.2.1).bind fun r1 =>
(laws_toSaidS a.2.2).bind fun r2 =>
 some (r.1, (r.2.1, ((r.2.2.1.1, r.2.2.1.2), ((r.2.2.2.1, r.2.2.2.2), ((r1.1, r1.2), (r2.1, r2.2)))))) := Eq.trans (inf_call_eq (H := H) 34 a) (by kernel_rfl)
theorem laws_toIntS_L0_eq (a : Bool × List Int) (out : Bool × List Int) (i : Int) : laws_toIntS_L0 a out i =
 bif decide (i < (a.2.length : Int)) then
 bif decide (0 ≤ i) then
 bif decide (i < (a.2.length : Int)) then
 bif decide (0 ≤ i) then
 bif decide (i < (out.2.length : Int)) then
(laws_toIntS_L0 a (out.1, (out.2.set (Int.toNat i) (a.2.getD (Int.toNat i) 0))) (IntKind.i64.wrap (i + 1))).bind fun r => some r
else none
else none
else none
else none
else 
 some (out.1, out.2) := Eq.trans (inf_loop_eq (H := H) 40 0 (loopCode Tryz.f40 0) (a, (out, i)) key_laws_toIntS) (by kernel_rfl)
theorem laws_toIntS_eq (a : Bool × List Int) : laws_toIntS a =
 bif decide (0 ≤ (a.2.length : Int)) then
 bif decide ((a.2.length : Int) ≤ lim) then
 bif decide ((a.2.length : Int) ≤ (a.2.length : Int)) then
 bif decide ((a.2.length : Int) ≤ lim) then
(laws_toIntS_L0 a (false, (List.replicate (Int.toNat (a.2.length : Int)) (0 : Int))) 0).bind fun r =>
 some (r.1, r.2)
else none
else none
else none
else none := Eq.trans (inf_call_eq (H := H) 40 a) (by kernel_rfl)
theorem laws_toSight_eq (a : DSight) : laws_toSight a =
(laws_toIntS a).bind fun r =>
 some (r.1, r.2) := Eq.trans (inf_call_eq (H := H) 15 a) (by kernel_rfl)
theorem spec_l1In_eq (n : Int) (lo : Int) (hi : Int) : spec_l1In n lo hi =
 bif decide (n ≥ lo) then
 some (decide (n ≤ hi))
else 
 some false := Eq.trans (inf_call_eq (H := H) 86 (n, (lo, hi))) (by kernel_rfl)
theorem spec_l1Wide_eq (wide : Int) : spec_l1Wide wide =
(spec_l1In wide 1 64).bind fun r =>
 some r := Eq.trans (inf_call_eq (H := H) 177 wide) (by kernel_rfl)
theorem spec_l2Need_eq (op : Int) : spec_l2Need op =
 bif (op == 1) then
 some (0, (1, 1))
else 
 bif (op == 2) then
 some (0, (1, 1))
else 
 bif (op == 20) then
 some (0, (2, 2))
else 
 bif (op == 13) then
 some (1, (1, 1))
else 
 bif (op == 19) then
 some (1, (2, 2))
else 
(spec_l1In op 3 12).bind fun r =>
 bif r then
 some (2, (1, 1))
else 
(spec_l1In op 14 16).bind fun r1 =>
 bif r1 then
 some (2, (1, 2))
else 
 bif (op == 17) then
 some (2, (2, 2))
else 
 bif (op == 18) then
 some (2, (2, 2))
else 
 some (0, (0, 0)) := Eq.trans (inf_call_eq (H := H) 178 op) (by kernel_rfl)
theorem spec_l1Cut_L0_eq (wide : Int) (a : Int) (out : Int) (k_ : Int) : spec_l1Cut_L0 wide a out k_ =
 bif decide (k_ < wide) then
 bif decide ((IntKind.u64.wrap k_) < 0) then
 none
else 
(spec_l1Cut_L0 wide a (bOr .u64 out (bAnd .u64 a (bShl .u64 1 (IntKind.u64.wrap k_)))) (IntKind.i64.wrap (k_ + 1))).bind fun r => some r
else 
 some out := Eq.trans (inf_loop_eq (H := H) 239 0 (loopCode Tryz.f239 0) (wide, (a, (out, k_))) key_spec_l1Cut) (by kernel_rfl)
theorem spec_l1Cut_eq (wide : Int) (a : Int) : spec_l1Cut wide a =
(spec_l1Cut_L0 wide a 0 0).bind fun r =>
 some r := Eq.trans (inf_call_eq (H := H) 239 (wide, a)) (by kernel_rfl)
theorem spec_GoodWord_eq (wide : Int) (a : Int) : spec_GoodWord wide a =
(spec_l1Wide wide).bind fun r =>
 bif r then
(spec_l1Cut wide a).bind fun r1 =>
 some (r1 == a)
else 
 some false := Eq.trans (inf_call_eq (H := H) 238 (wide, a)) (by kernel_rfl)
theorem spec_l2N_eq (wide : Int) (vars : Int) (n : DNode) : spec_l2N wide vars n =
 bif (n.1 == 1) then
(spec_GoodWord wide n.2).bind fun r =>
 some r
else 
 bif (n.1 == 2) then
 some (decide (n.2 < (IntKind.u64.wrap vars)))
else 
 bif (n.1 == 20) then
 some (decide (n.2 < 2))
else 
 some (n.2 == 0) := Eq.trans (inf_call_eq (H := H) 179 (wide, (vars, n))) (by kernel_rfl)
theorem spec_l2Kind_L0_eq (wide : Int) (vars : Int) (pile : Bool × List Int) (t27 : Bool × List DNode) (t28 : Int) (t29 : Int) : spec_l2Kind_L0 wide vars pile t27 t28 t29 =
 bif decide (t29 < t28) then
 bif decide (0 ≤ t29) then
 bif decide (t29 < (t27.2.length : Int)) then
(spec_l2Need ((t27.2.getD (Int.toNat t29) (0, 0)).1)).bind fun r =>
 bif (r.2.2 == 0) then
 some (.inl 0)
else 
(spec_l2N wide vars (t27.2.getD (Int.toNat t29) (0, 0))).bind fun r1 =>
 bif !r1 then
 some (.inl 0)
else 
 bif decide ((pile.2.length : Int) < r.1) then
 some (.inl 0)
else 
(spec_l2Kind_L2 wide vars (pile.1, pile.2) r.1 r.2.1 r.2.2 t27 t28 t29).bind fun r2 =>
 match r2 with
| .inl y =>
 some (.inl y)
| .inr z =>
 bif decide (z.2.length + [r.2.2].length ≤ lim) then
(spec_l2Kind_L0 wide vars ((z.1 && false), (z.2 ++ [r.2.2])) t27 t28 (IntKind.i64.wrap (t29 + 1))).bind fun r => some r
else none
else none
else none
else 
 some (.inr (pile.1, pile.2)) := Eq.trans (inf_loop_eq (H := H) 123 0 (loopCode Tryz.f123 0) (wide, (vars, (pile, (t27, (t28, t29))))) key_spec_l2Kind) (by kernel_rfl)
theorem spec_l2Kind_L2_eq (wide : Int) (vars : Int) (pile : Bool × List Int) (many : Int) (part : Int) (own : Int) (t27 : Bool × List DNode) (t28 : Int) (t29 : Int) : spec_l2Kind_L2 wide vars pile many part own t27 t28 t29 =
 bif decide (many > 0) then
 bif decide (0 ≤ (IntKind.i64.wrap ((pile.2.length : Int) - 1))) then
 bif decide ((IntKind.i64.wrap ((pile.2.length : Int) - 1)) < (pile.2.length : Int)) then
 bif ((pile.2.getD (Int.toNat (IntKind.i64.wrap ((pile.2.length : Int) - 1))) 0) != part) then
 some (.inl 0)
else 
 bif decide (0 ≤ (IntKind.i64.wrap ((pile.2.length : Int) - 1))) then
 bif decide ((IntKind.i64.wrap ((pile.2.length : Int) - 1)) ≤ (pile.2.length : Int)) then
(spec_l2Kind_L2 wide vars (pile.1, ((pile.2.take (Int.toNat (IntKind.i64.wrap ((pile.2.length : Int) - 1)))).drop 0)) (IntKind.i64.wrap (many - 1)) part own t27 t28 t29).bind fun r => some r
else none
else none
else none
else none
else 
 some (.inr (pile.1, pile.2)) := Eq.trans (inf_loop_eq (H := H) 123 2 (loopCode Tryz.f123 2) (wide, (vars, (pile, (many, (part, (own, (t27, (t28, t29)))))))) key_spec_l2Kind) (by kernel_rfl)
theorem spec_l2Kind_eq (wide : Int) (vars : Int) (t : Bool × List DNode) : spec_l2Kind wide vars t =
(spec_l1Wide wide).bind fun r =>
 bif !r then
 some 0
else 
(spec_l1In vars 1 4).bind fun r1 =>
 bif !r1 then
 some 0
else 
(spec_l1In (t.2.length : Int) 1 48).bind fun r2 =>
 bif !r2 then
 some 0
else 
(spec_l2Kind_L0 wide vars (true, []) t (t.2.length : Int) 0).bind fun r3 =>
 match r3 with
| .inl y =>
 some y
| .inr z =>
 bif ((z.2.length : Int) != 1) then
 some 0
else 
 bif decide (0 < (z.2.length : Int)) then
 some (z.2.getD 0 0)
else none := Eq.trans (inf_call_eq (H := H) 123 (wide, (vars, t))) (by kernel_rfl)
theorem spec_l7Asks_eq (p : DProgram) (t : Bool × List DNode) : spec_l7Asks p t =
(spec_l2Kind p.1 p.2.1 t).bind fun r =>
 some (r == 2) := Eq.trans (inf_call_eq (H := H) 62 (p, t)) (by kernel_rfl)
theorem spec_l7Command_L0_eq (p : DProgram) (c : DCommand) (t21 : Bool × List DChange) (t22 : Int) (t23 : Int) : spec_l7Command_L0 p c t21 t22 t23 =
 bif decide (t23 < t22) then
 bif decide (0 ≤ t23) then
 bif decide (t23 < (t21.2.length : Int)) then
(spec_l1In ((t21.2.getD (Int.toNat t23) (0, (true, []))).1) 0 (IntKind.i64.wrap (p.2.1 - 1))).bind fun r =>
 bif !r then
 some (.inl false)
else 
 bif decide (t23 > 0) then
 bif decide (0 ≤ (IntKind.i64.wrap (t23 - 1))) then
 bif decide ((IntKind.i64.wrap (t23 - 1)) < (c.2.2.length : Int)) then
 bif decide (((c.2.2.getD (Int.toNat (IntKind.i64.wrap (t23 - 1))) (0, (true, []))).1) ≥ ((t21.2.getD (Int.toNat t23) (0, (true, []))).1)) then
 some (.inl false)
else 
(spec_l2Kind p.1 p.2.1 ((t21.2.getD (Int.toNat t23) (0, (true, []))).2)).bind fun r1 =>
 bif (r1 != 1) then
 some (.inl false)
else 
(spec_l7Command_L0 p c t21 t22 (IntKind.i64.wrap (t23 + 1))).bind fun r => some r
else none
else none
else 
(spec_l2Kind p.1 p.2.1 ((t21.2.getD (Int.toNat t23) (0, (true, []))).2)).bind fun r2 =>
 bif (r2 != 1) then
 some (.inl false)
else 
(spec_l7Command_L0 p c t21 t22 (IntKind.i64.wrap (t23 + 1))).bind fun r => some r
else none
else none
else 
 some (.inr ()) := Eq.trans (inf_loop_eq (H := H) 230 0 (loopCode Tryz.f230 0) (p, (c, (t21, (t22, t23)))) key_spec_l7Command) (by kernel_rfl)
theorem spec_l7Command_eq (p : DProgram) (c : DCommand) : spec_l7Command p c =
(spec_l7Asks p c.1).bind fun r =>
 bif !r then
 some false
else 
 bif decide ((c.2.2.length : Int) > p.2.1) then
 some false
else 
(spec_l7Command_L0 p c c.2 (c.2.2.length : Int) 0).bind fun r1 =>
 match r1 with
| .inl y =>
 some y
| .inr z =>
 some true := Eq.trans (inf_call_eq (H := H) 230 (p, c)) (by kernel_rfl)
theorem spec_GoodProgram_L0_eq (p : DProgram) (t18 : Bool × List DCommand) (t19 : Int) (t20 : Int) : spec_GoodProgram_L0 p t18 t19 t20 =
 bif decide (t20 < t19) then
 bif decide (0 ≤ t20) then
 bif decide (t20 < (t18.2.length : Int)) then
(spec_l7Command p (t18.2.getD (Int.toNat t20) ((true, []), (true, [])))).bind fun r =>
 bif !r then
 some (.inl false)
else 
(spec_GoodProgram_L0 p t18 t19 (IntKind.i64.wrap (t20 + 1))).bind fun r => some r
else none
else none
else 
 some (.inr ()) := Eq.trans (inf_loop_eq (H := H) 170 0 (loopCode Tryz.f170 0) (p, (t18, (t19, t20))) key_spec_GoodProgram) (by kernel_rfl)
theorem spec_GoodProgram_eq (p : DProgram) : spec_GoodProgram p =
(spec_l7Asks p p.2.2.1).bind fun r =>
 bif !r then
 some false
else 
(spec_l1In (p.2.2.2.2.length : Int) 1 6).bind fun r1 =>
 bif !r1 then
 some false
else 
(spec_GoodProgram_L0 p p.2.2.2 (p.2.2.2.2.length : Int) 0).bind fun r2 =>
 match r2 with
| .inl y =>
 some y
| .inr z =>
 some true := Eq.trans (inf_call_eq (H := H) 170 p) (by kernel_rfl)
theorem spec_l7Small_eq (p : DProgram) : spec_l7Small p =
(spec_GoodProgram p).bind fun r =>
 bif r then
 some (decide ((IntKind.i64.wrap (p.1 * p.2.1)) ≤ 5))
else 
 some false := Eq.trans (inf_call_eq (H := H) 110 p) (by kernel_rfl)
theorem spec_l10Need_eq (op : Int) : spec_l10Need op =
 bif (op == 1) then
 bif (op == 1) then
 some 0
else 
 bif (op == 3) then
 bif (op == 3) then
 some 1
else 
 bif (op == 5) then
 bif (op == 5) then
 some 2
else 
 some (-1)
else 
 bif (op == 6) then
 bif (op == 6) then
 some 2
else 
 some (-1)
else 
 bif (op == 7) then
 bif (op == 7) then
 some 2
else 
 some (-1)
else 
 bif (op == 8) then
 some 2
else 
 some (-1)
else 
 bif (op == 4) then
 some 1
else 
 bif (op == 5) then
 bif (op == 5) then
 some 2
else 
 some (-1)
else 
 bif (op == 6) then
 bif (op == 6) then
 some 2
else 
 some (-1)
else 
 bif (op == 7) then
 bif (op == 7) then
 some 2
else 
 some (-1)
else 
 bif (op == 8) then
 some 2
else 
 some (-1)
else 
 bif (op == 2) then
 some 0
else 
 bif (op == 3) then
 bif (op == 3) then
 some 1
else 
 bif (op == 5) then
 bif (op == 5) then
 some 2
else 
 some (-1)
else 
 bif (op == 6) then
 bif (op == 6) then
 some 2
else 
 some (-1)
else 
 bif (op == 7) then
 bif (op == 7) then
 some 2
else 
 some (-1)
else 
 bif (op == 8) then
 some 2
else 
 some (-1)
else 
 bif (op == 4) then
 some 1
else 
 bif (op == 5) then
 bif (op == 5) then
 some 2
else 
 some (-1)
else 
 bif (op == 6) then
 bif (op == 6) then
 some 2
else 
 some (-1)
else 
 bif (op == 7) then
 bif (op == 7) then
 some 2
else 
 some (-1)
else 
 bif (op == 8) then
 some 2
else 
 some (-1) := Eq.trans (inf_call_eq (H := H) 272 op) (by kernel_rfl)
theorem spec_l10N_eq (n : DSaid) : spec_l10N n =
 bif (n.1 == 1) then
(spec_l1In n.2 0 2).bind fun r =>
 some r
else 
 bif (n.1 == 2) then
(spec_l1In n.2 0 1).bind fun r1 =>
 some r1
else 
 some (n.2 == 0) := Eq.trans (inf_call_eq (H := H) 273 n) (by kernel_rfl)
theorem spec_GoodSaid_L0_eq (pile : Int) (t11 : Bool × List DSaid) (t12 : Int) (t13 : Int) : spec_GoodSaid_L0 pile t11 t12 t13 =
 bif decide (t13 < t12) then
 bif decide (0 ≤ t13) then
 bif decide (t13 < (t11.2.length : Int)) then
(spec_l10Need ((t11.2.getD (Int.toNat t13) (0, 0)).1)).bind fun r =>
 bif decide (r < 0) then
 some (.inl false)
else 
(spec_l10N (t11.2.getD (Int.toNat t13) (0, 0))).bind fun r1 =>
 bif !r1 then
 some (.inl false)
else 
 bif decide (pile < r) then
 some (.inl false)
else 
(spec_GoodSaid_L0 (IntKind.i64.wrap (pile + (IntKind.i64.wrap (1 - r)))) t11 t12 (IntKind.i64.wrap (t13 + 1))).bind fun r => some r
else none
else none
else 
 some (.inr pile) := Eq.trans (inf_loop_eq (H := H) 245 0 (loopCode Tryz.f245 0) (pile, (t11, (t12, t13))) key_spec_GoodSaid) (by kernel_rfl)
theorem spec_GoodSaid_eq (f : Bool × List DSaid) : spec_GoodSaid f =
(spec_l1In (f.2.length : Int) 1 16).bind fun r =>
 bif !r then
 some false
else 
(spec_GoodSaid_L0 0 f (f.2.length : Int) 0).bind fun r1 =>
 match r1 with
| .inl y =>
 some y
| .inr z =>
 some (z == 1) := Eq.trans (inf_call_eq (H := H) 245 f) (by kernel_rfl)
theorem spec_l1Put_L0_eq (l : Bool × List Int) (n : Int) (k_ : Int) : spec_l1Put_L0 l n k_ =
 bif decide (k_ < (l.2.length : Int)) then
 bif decide (0 ≤ k_) then
 bif decide (k_ < (l.2.length : Int)) then
 bif decide ((l.2.getD (Int.toNat k_) 0) < n) then
(spec_l1Put_L0 l n (IntKind.i64.wrap (k_ + 1))).bind fun r => some r
else 
 some k_
else none
else none
else 
 some k_ := Eq.trans (inf_loop_eq (H := H) 172 0 (loopCode Tryz.f172 0) (l, (n, k_)) key_spec_l1Put) (by kernel_rfl)
theorem spec_l1Put_eq (l : Bool × List Int) (n : Int) : spec_l1Put l n =
(spec_l1Put_L0 l n 0).bind fun r =>
 bif decide (r < (l.2.length : Int)) then
 bif decide (0 ≤ r) then
 bif decide (r < (l.2.length : Int)) then
 bif ((l.2.getD (Int.toNat r) 0) == n) then
 some l
else 
 bif decide (0 ≤ r) then
 bif decide (r ≤ (l.2.length : Int)) then
 bif decide (([] : List Int).length + ((l.2.take (Int.toNat r)).drop 0).length ≤ lim) then
 bif decide (([] ++ ((l.2.take (Int.toNat r)).drop 0)).length + [n].length ≤ lim) then
 bif decide (0 ≤ r) then
 bif decide (r ≤ (l.2.length : Int)) then
 bif decide ((([] ++ ((l.2.take (Int.toNat r)).drop 0)) ++ [n]).length + ((l.2.take l.2.length).drop (Int.toNat r)).length ≤ lim) then
 some (false, ((([] ++ ((l.2.take (Int.toNat r)).drop 0)) ++ [n]) ++ ((l.2.take l.2.length).drop (Int.toNat r))))
else none
else none
else none
else none
else none
else none
else none
else none
else none
else 
 bif decide (0 ≤ r) then
 bif decide (r ≤ (l.2.length : Int)) then
 bif decide (([] : List Int).length + ((l.2.take (Int.toNat r)).drop 0).length ≤ lim) then
 bif decide (([] ++ ((l.2.take (Int.toNat r)).drop 0)).length + [n].length ≤ lim) then
 bif decide (0 ≤ r) then
 bif decide (r ≤ (l.2.length : Int)) then
 bif decide ((([] ++ ((l.2.take (Int.toNat r)).drop 0)) ++ [n]).length + ((l.2.take l.2.length).drop (Int.toNat r)).length ≤ lim) then
 some (false, ((([] ++ ((l.2.take (Int.toNat r)).drop 0)) ++ [n]) ++ ((l.2.take l.2.length).drop (Int.toNat r))))
else none
else none
else none
else none
else none
else none
else none := Eq.trans (inf_call_eq (H := H) 172 (l, n)) (by kernel_rfl)
theorem spec_l13Tracked_L0_eq (out : Bool × List Int) (t10 : Bool × List DSaid) (t11 : Int) (t12 : Int) : spec_l13Tracked_L0 out t10 t11 t12 =
 bif decide (t12 < t11) then
 bif decide (0 ≤ t12) then
 bif decide (t12 < (t10.2.length : Int)) then
 bif (((t10.2.getD (Int.toNat t12) (0, 0)).1) == 7) then
 bif (((t10.2.getD (Int.toNat t12) (0, 0)).1) == 7) then
(spec_l1Put out t12).bind fun r =>
(spec_l1Put r (IntKind.i64.wrap (t12 - 1))).bind fun r1 =>
(spec_l13Tracked_L0 r1 t10 t11 (IntKind.i64.wrap (t12 + 1))).bind fun r => some r
else 
 bif (((t10.2.getD (Int.toNat t12) (0, 0)).1) == 4) then
(spec_l1Put out (IntKind.i64.wrap (t12 - 1))).bind fun r2 =>
(spec_l13Tracked_L0 r2 t10 t11 (IntKind.i64.wrap (t12 + 1))).bind fun r => some r
else 
(spec_l13Tracked_L0 out t10 t11 (IntKind.i64.wrap (t12 + 1))).bind fun r => some r
else 
 bif (((t10.2.getD (Int.toNat t12) (0, 0)).1) == 8) then
(spec_l1Put out t12).bind fun r3 =>
(spec_l1Put r3 (IntKind.i64.wrap (t12 - 1))).bind fun r4 =>
(spec_l13Tracked_L0 r4 t10 t11 (IntKind.i64.wrap (t12 + 1))).bind fun r => some r
else 
 bif (((t10.2.getD (Int.toNat t12) (0, 0)).1) == 4) then
(spec_l1Put out (IntKind.i64.wrap (t12 - 1))).bind fun r5 =>
(spec_l13Tracked_L0 r5 t10 t11 (IntKind.i64.wrap (t12 + 1))).bind fun r => some r
else 
(spec_l13Tracked_L0 out t10 t11 (IntKind.i64.wrap (t12 + 1))).bind fun r => some r
else none
else none
else 
 some out := Eq.trans (inf_loop_eq (H := H) 207 0 (loopCode Tryz.f207 0) (out, (t10, (t11, t12))) key_spec_l13Tracked) (by kernel_rfl)
theorem spec_l13Tracked_eq (f : Bool × List DSaid) : spec_l13Tracked f =
(spec_l13Tracked_L0 (false, [IntKind.i64.wrap ((f.2.length : Int) - 1)]) f (f.2.length : Int) 0).bind fun r =>
 some r := Eq.trans (inf_call_eq (H := H) 207 f) (by kernel_rfl)
theorem spec_l13Good_eq (f : Bool × List DSaid) : spec_l13Good f =
(spec_GoodSaid f).bind fun r =>
 bif r then
(spec_l13Tracked f).bind fun r1 =>
 some (decide ((r1.2.length : Int) ≤ 5))
else 
 some false := Eq.trans (inf_call_eq (H := H) 187 f) (by kernel_rfl)
theorem spec_GoodQuestion_L0_eq (q : DQuestion) (t22 : Bool × List (Bool × List DNode)) (t23 : Int) (t24 : Int) : spec_GoodQuestion_L0 q t22 t23 t24 =
 bif decide (t24 < t23) then
 bif decide (0 ≤ t24) then
 bif decide (t24 < (t22.2.length : Int)) then
(spec_l7Asks q.1 (t22.2.getD (Int.toNat t24) (true, []))).bind fun r =>
 bif !r then
 some (.inl false)
else 
(spec_GoodQuestion_L0 q t22 t23 (IntKind.i64.wrap (t24 + 1))).bind fun r => some r
else none
else none
else 
 some (.inr ()) := Eq.trans (inf_loop_eq (H := H) 133 0 (loopCode Tryz.f133 0) (q, (t22, (t23, t24))) key_spec_GoodQuestion) (by kernel_rfl)
theorem spec_GoodQuestion_eq (q : DQuestion) : spec_GoodQuestion q =
(spec_l7Small q.1).bind fun r =>
 bif !r then
 some false
else 
 bif ((q.2.1.2.length : Int) != 3) then
 some false
else 
(spec_l13Good q.2.2).bind fun r1 =>
 bif !r1 then
 some false
else 
(spec_GoodQuestion_L0 q q.2.1 (q.2.1.2.length : Int) 0).bind fun r2 =>
 match r2 with
| .inl y =>
 some y
| .inr z =>
 some true := Eq.trans (inf_call_eq (H := H) 133 q) (by kernel_rfl)
theorem spec_l7Many_eq (p : DProgram) : spec_l7Many p =
 bif decide ((IntKind.u64.wrap (IntKind.i64.wrap (p.1 * p.2.1))) < 0) then
 none
else 
 some (bShl .i64 1 (IntKind.u64.wrap (IntKind.i64.wrap (p.1 * p.2.1)))) := Eq.trans (inf_call_eq (H := H) 111 p) (by kernel_rfl)
theorem spec_GoodSight_L0_eq (many : Int) (t20 : Bool × List Int) (t21 : Int) (t22 : Int) : spec_GoodSight_L0 many t20 t21 t22 =
 bif decide (t22 < t21) then
 bif decide (0 ≤ t22) then
 bif decide (t22 < (t20.2.length : Int)) then
(spec_l1In (t20.2.getD (Int.toNat t22) 0) 0 many).bind fun r =>
 bif !r then
 some (.inl false)
else 
 bif ((t20.2.getD (Int.toNat t22) 0) == many) then
(spec_GoodSight_L0 (IntKind.i64.wrap (many + 1)) t20 t21 (IntKind.i64.wrap (t22 + 1))).bind fun r => some r
else 
(spec_GoodSight_L0 many t20 t21 (IntKind.i64.wrap (t22 + 1))).bind fun r => some r
else none
else none
else 
 some (.inr ()) := Eq.trans (inf_loop_eq (H := H) 55 0 (loopCode Tryz.f55 0) (many, (t20, (t21, t22))) key_spec_GoodSight) (by kernel_rfl)
theorem spec_GoodSight_eq (p : DProgram) (v : DSight) : spec_GoodSight p v =
(spec_l7Small p).bind fun r =>
 bif !r then
 some false
else 
(spec_l7Many p).bind fun r1 =>
 bif ((v.2.length : Int) != r1) then
 some false
else 
(spec_GoodSight_L0 0 v (v.2.length : Int) 0).bind fun r2 =>
 match r2 with
| .inl y =>
 some y
| .inr z =>
 some true := Eq.trans (inf_call_eq (H := H) 55 (p, v)) (by kernel_rfl)
theorem spec_l22Sight_eq (q : DQuestion) (v : DSight) : spec_l22Sight q v =
(spec_GoodQuestion q).bind fun r =>
 bif r then
(spec_GoodSight q.1 v).bind fun r1 =>
 some r1
else 
 some false := Eq.trans (inf_call_eq (H := H) 78 (q, v)) (by kernel_rfl)
theorem spec_l15Many_L0_eq (many : Int) (t7 : Bool × List Int) (t8 : Int) (t9 : Int) : spec_l15Many_L0 many t7 t8 t9 =
 bif decide (t9 < t8) then
 bif decide (0 ≤ t9) then
 bif decide (t9 < (t7.2.length : Int)) then
 bif decide ((t7.2.getD (Int.toNat t9) 0) ≥ many) then
(spec_l15Many_L0 (IntKind.i64.wrap ((t7.2.getD (Int.toNat t9) 0) + 1)) t7 t8 (IntKind.i64.wrap (t9 + 1))).bind fun r => some r
else 
(spec_l15Many_L0 many t7 t8 (IntKind.i64.wrap (t9 + 1))).bind fun r => some r
else none
else none
else 
 some many := Eq.trans (inf_loop_eq (H := H) 87 0 (loopCode Tryz.f87 0) (many, (t7, (t8, t9))) key_spec_l15Many) (by kernel_rfl)
theorem spec_l15Many_eq (v : DSight) : spec_l15Many v =
(spec_l15Many_L0 0 v (v.2.length : Int) 0).bind fun r =>
 some r := Eq.trans (inf_call_eq (H := H) 87 v) (by kernel_rfl)
theorem spec_l15In_L0_eq (class_ : Int) (out : Bool × List Int) (t9 : Bool × List Int) (t10 : Int) (t11 : Int) : spec_l15In_L0 class_ out t9 t10 t11 =
 bif decide (t11 < t10) then
 bif decide (0 ≤ t11) then
 bif decide (t11 < (t9.2.length : Int)) then
 bif ((t9.2.getD (Int.toNat t11) 0) == class_) then
 bif decide (out.2.length + [t11].length ≤ lim) then
(spec_l15In_L0 class_ ((out.1 && false), (out.2 ++ [t11])) t9 t10 (IntKind.i64.wrap (t11 + 1))).bind fun r => some r
else none
else 
(spec_l15In_L0 class_ (out.1, out.2) t9 t10 (IntKind.i64.wrap (t11 + 1))).bind fun r => some r
else none
else none
else 
 some (out.1, out.2) := Eq.trans (inf_loop_eq (H := H) 134 0 (loopCode Tryz.f134 0) (class_, (out, (t9, (t10, t11)))) key_spec_l15In) (by kernel_rfl)
theorem spec_l15In_eq (v : DSight) (class_ : Int) : spec_l15In v class_ =
(spec_l15In_L0 class_ (true, []) v (v.2.length : Int) 0).bind fun r =>
 some (r.1, r.2) := Eq.trans (inf_call_eq (H := H) 134 (v, class_)) (by kernel_rfl)
theorem spec_l7Of_L0_eq (no : Int) (p : DProgram) (out : Bool × List Int) (v : Int) : spec_l7Of_L0 no p out v =
 bif decide (v < p.2.1) then
 bif decide ((IntKind.u64.wrap (IntKind.i64.wrap (v * p.1))) < 0) then
 none
else 
 bif decide ((IntKind.u64.wrap p.1) < 0) then
 none
else 
 bif decide (out.2.length + [IntKind.u64.wrap (bAnd .i64 (bShr .i64 no (IntKind.u64.wrap (IntKind.i64.wrap (v * p.1)))) (IntKind.i64.wrap ((bShl .i64 1 (IntKind.u64.wrap p.1)) - 1)))].length ≤ lim) then
(spec_l7Of_L0 no p ((out.1 && false), (out.2 ++ [IntKind.u64.wrap (bAnd .i64 (bShr .i64 no (IntKind.u64.wrap (IntKind.i64.wrap (v * p.1)))) (IntKind.i64.wrap ((bShl .i64 1 (IntKind.u64.wrap p.1)) - 1)))])) (IntKind.i64.wrap (v + 1))).bind fun r => some r
else none
else 
 some (out.1, out.2) := Eq.trans (inf_loop_eq (H := H) 125 0 (loopCode Tryz.f125 0) (no, (p, (out, v))) key_spec_l7Of) (by kernel_rfl)
theorem spec_l7Of_eq (p : DProgram) (no : Int) : spec_l7Of p no =
(spec_l7Of_L0 no p (true, []) 0).bind fun r =>
 some (r.1, r.2) := Eq.trans (inf_call_eq (H := H) 125 (p, no)) (by kernel_rfl)
theorem spec_l2From_L0_eq (t : Bool × List DNode) (many : Int) (from_ : Int) : spec_l2From_L0 t many from_ =
 bif decide (many > 0) then
(spec_l2From t (IntKind.i64.wrap (from_ - 1))).bind fun r =>
(spec_l2From_L0 t (IntKind.i64.wrap (many - 1)) r).bind fun r => some r
else 
 some from_ := Eq.trans (inf_loop_eq (H := H) 241 0 (loopCode Tryz.f241 0) (t, (many, from_)) key_spec_l2From) (by kernel_rfl)
theorem spec_l2From_eq (t : Bool × List DNode) (k_ : Int) : spec_l2From t k_ =
 bif decide (0 ≤ k_) then
 bif decide (k_ < (t.2.length : Int)) then
(spec_l2Need ((t.2.getD (Int.toNat k_) (0, 0)).1)).bind fun r =>
(spec_l2From_L0 t r.1 k_).bind fun r1 =>
 some r1
else none
else none := Eq.trans (inf_call_eq (H := H) 241 (t, k_)) (by kernel_rfl)
theorem spec_l1Both_eq (wide : Int) (a : Int) (b : Int) : spec_l1Both wide a b =
(spec_GoodWord wide a).bind fun r =>
 bif r then
(spec_GoodWord wide b).bind fun r1 =>
 some r1
else 
 some false := Eq.trans (inf_call_eq (H := H) 282 (wide, (a, b))) (by kernel_rfl)
theorem spec_DivWord_eq (wide : Int) (a : Int) (b : Int) : spec_DivWord wide a b =
(spec_l1Both wide a b).bind fun r =>
 bif !r then
 some (0, (0, false))
else 
 bif (b == 0) then
(spec_l1Cut wide 18446744073709551615).bind fun r1 =>
 some (r1, (a, true))
else 
 bif (b == 0) then
 none
else 
 bif (b == 0) then
 none
else 
 some (IntKind.u64.wrap (Int.tdiv a b), (Int.tmod a b, true)) := Eq.trans (inf_call_eq (H := H) 267 (wide, (a, b))) (by kernel_rfl)
theorem spec_l1Shift_L0_eq (wide : Int) (a : Int) (by_ : Int) (left_ : Bool) : spec_l1Shift_L0 wide a by_ left_ =
 bif decide (by_ > 0) then
 bif left_ then
(spec_l1Cut wide (bShl .u64 a 1)).bind fun r =>
(spec_l1Shift_L0 wide r (IntKind.u64.wrap (by_ - 1)) left_).bind fun r => some r
else 
(spec_l1Shift_L0 wide (bShr .u64 a 1) (IntKind.u64.wrap (by_ - 1)) left_).bind fun r => some r
else 
 some a := Eq.trans (inf_loop_eq (H := H) 268 0 (loopCode Tryz.f268 0) (wide, (a, (by_, left_))) key_spec_l1Shift) (by kernel_rfl)
theorem spec_l1Shift_eq (wide : Int) (a : Int) (by_ : Int) (left_ : Bool) : spec_l1Shift wide a by_ left_ =
 bif decide (by_ ≥ (IntKind.u64.wrap wide)) then
 some 0
else 
(spec_l1Shift_L0 wide a by_ left_).bind fun r =>
 some r := Eq.trans (inf_call_eq (H := H) 268 (wide, (a, (by_, left_)))) (by kernel_rfl)
theorem spec_l2Bool_eq (is : Bool) : spec_l2Bool is =
 bif is then
 some 1
else 
 some 0 := Eq.trans (inf_call_eq (H := H) 269 is) (by kernel_rfl)
theorem spec_l1Signed_eq (wide : Int) (a : Int) : spec_l1Signed wide a =
 bif decide ((IntKind.u64.wrap (IntKind.i64.wrap (wide - 1))) < 0) then
 none
else 
 bif ((bAnd .u64 (bShr .u64 a (IntKind.u64.wrap (IntKind.i64.wrap (wide - 1)))) 1) == 1) then
(spec_l1Cut wide 18446744073709551615).bind fun r =>
 some (IntKind.i64.wrap (bOr .u64 a (bXor .u64 18446744073709551615 r)))
else 
 some (IntKind.i64.wrap a) := Eq.trans (inf_call_eq (H := H) 270 (wide, a)) (by kernel_rfl)
theorem spec_l2Do_eq (wide : Int) (op : Int) (a : Int) (b : Int) : spec_l2Do wide op a b =
(spec_DivWord wide a b).bind fun r =>
 bif (op == 3) then
(spec_l1Cut wide (IntKind.u64.wrap (a + b))).bind fun r1 =>
 some r1
else 
 bif (op == 4) then
(spec_l1Cut wide (IntKind.u64.wrap (a - b))).bind fun r2 =>
 some r2
else 
 bif (op == 5) then
(spec_l1Cut wide (IntKind.u64.wrap (a * b))).bind fun r3 =>
 some r3
else 
 bif (op == 6) then
 some r.1
else 
 bif (op == 7) then
 some r.2.1
else 
 bif (op == 8) then
 bif (op == 8) then
 some (bAnd .u64 a b)
else 
 bif (op == 9) then
 bif (op == 9) then
 some (bOr .u64 a b)
else 
 bif (op == 10) then
 some (bXor .u64 a b)
else 
 bif (op == 11) then
(spec_l1Shift wide a b true).bind fun r4 =>
 some r4
else 
 bif (op == 12) then
(spec_l1Shift wide a b false).bind fun r5 =>
 some r5
else 
 bif (op == 14) then
(spec_l2Bool (a == b)).bind fun r6 =>
 some r6
else 
 bif (op == 15) then
(spec_l2Bool (decide (a < b))).bind fun r7 =>
 some r7
else 
 bif (op == 16) then
(spec_l1Signed wide a).bind fun r8 =>
(spec_l1Signed wide b).bind fun r9 =>
(spec_l2Bool (decide (r8 < r9))).bind fun r10 =>
 some r10
else 
 some 0
else 
 bif (op == 18) then
 some (bOr .u64 a b)
else 
 bif (op == 10) then
 some (bXor .u64 a b)
else 
 bif (op == 11) then
(spec_l1Shift wide a b true).bind fun r11 =>
 some r11
else 
 bif (op == 12) then
(spec_l1Shift wide a b false).bind fun r12 =>
 some r12
else 
 bif (op == 14) then
(spec_l2Bool (a == b)).bind fun r13 =>
 some r13
else 
 bif (op == 15) then
(spec_l2Bool (decide (a < b))).bind fun r14 =>
 some r14
else 
 bif (op == 16) then
(spec_l1Signed wide a).bind fun r15 =>
(spec_l1Signed wide b).bind fun r16 =>
(spec_l2Bool (decide (r15 < r16))).bind fun r17 =>
 some r17
else 
 some 0
else 
 bif (op == 17) then
 some (bAnd .u64 a b)
else 
 bif (op == 9) then
 bif (op == 9) then
 some (bOr .u64 a b)
else 
 bif (op == 10) then
 some (bXor .u64 a b)
else 
 bif (op == 11) then
(spec_l1Shift wide a b true).bind fun r18 =>
 some r18
else 
 bif (op == 12) then
(spec_l1Shift wide a b false).bind fun r19 =>
 some r19
else 
 bif (op == 14) then
(spec_l2Bool (a == b)).bind fun r20 =>
 some r20
else 
 bif (op == 15) then
(spec_l2Bool (decide (a < b))).bind fun r21 =>
 some r21
else 
 bif (op == 16) then
(spec_l1Signed wide a).bind fun r22 =>
(spec_l1Signed wide b).bind fun r23 =>
(spec_l2Bool (decide (r22 < r23))).bind fun r24 =>
 some r24
else 
 some 0
else 
 bif (op == 18) then
 some (bOr .u64 a b)
else 
 bif (op == 10) then
 some (bXor .u64 a b)
else 
 bif (op == 11) then
(spec_l1Shift wide a b true).bind fun r25 =>
 some r25
else 
 bif (op == 12) then
(spec_l1Shift wide a b false).bind fun r26 =>
 some r26
else 
 bif (op == 14) then
(spec_l2Bool (a == b)).bind fun r27 =>
 some r27
else 
 bif (op == 15) then
(spec_l2Bool (decide (a < b))).bind fun r28 =>
 some r28
else 
 bif (op == 16) then
(spec_l1Signed wide a).bind fun r29 =>
(spec_l1Signed wide b).bind fun r30 =>
(spec_l2Bool (decide (r29 < r30))).bind fun r31 =>
 some r31
else 
 some 0 := Eq.trans (inf_call_eq (H := H) 240 (wide, (op, (a, b)))) (by kernel_rfl)
theorem spec_l2Value_eq (wide : Int) (t : Bool × List DNode) (k_ : Int) (state : Bool × List Int) : spec_l2Value wide t k_ state =
 bif decide (0 ≤ k_) then
 bif decide (k_ < (t.2.length : Int)) then
(spec_l2Need ((t.2.getD (Int.toNat k_) (0, 0)).1)).bind fun r =>
 bif (((t.2.getD (Int.toNat k_) (0, 0)).1) == 2) then
 bif decide (0 ≤ ((t.2.getD (Int.toNat k_) (0, 0)).2)) then
 bif decide (((t.2.getD (Int.toNat k_) (0, 0)).2) < (state.2.length : Int)) then
 some (state.2.getD (Int.toNat ((t.2.getD (Int.toNat k_) (0, 0)).2)) 0)
else none
else none
else 
 bif (r.1 == 0) then
 some ((t.2.getD (Int.toNat k_) (0, 0)).2)
else 
 bif (((t.2.getD (Int.toNat k_) (0, 0)).1) == 13) then
(spec_l2Value wide t (IntKind.i64.wrap (k_ - 1)) state).bind fun r1 =>
(spec_l1Cut wide (bXor .u64 18446744073709551615 r1)).bind fun r2 =>
 some r2
else 
 bif (((t.2.getD (Int.toNat k_) (0, 0)).1) == 19) then
(spec_l2Value wide t (IntKind.i64.wrap (k_ - 1)) state).bind fun r3 =>
 some (IntKind.u64.wrap (1 - r3))
else 
(spec_l2From t (IntKind.i64.wrap (k_ - 1))).bind fun r4 =>
(spec_l2Value wide t (IntKind.i64.wrap (r4 - 1)) state).bind fun r5 =>
(spec_l2Value wide t (IntKind.i64.wrap (k_ - 1)) state).bind fun r6 =>
(spec_l2Do wide ((t.2.getD (Int.toNat k_) (0, 0)).1) r5 r6).bind fun r7 =>
 some r7
else none
else none := Eq.trans (inf_call_eq (H := H) 180 (wide, (t, (k_, state)))) (by kernel_rfl)
theorem spec_l7Holds_eq (p : DProgram) (t : Bool × List DNode) (s : Bool × List Int) : spec_l7Holds p t s =
(spec_l2Value p.1 t (IntKind.i64.wrap ((t.2.length : Int) - 1)) s).bind fun r =>
 some (r == 1) := Eq.trans (inf_call_eq (H := H) 124 (p, (t, s))) (by kernel_rfl)
theorem spec_l14Letter_L0_eq (no : Int) (q : DQuestion) (out : Int) (t9 : Bool × List (Bool × List DNode)) (t10 : Int) (t11 : Int) : spec_l14Letter_L0 no q out t9 t10 t11 =
 bif decide (t11 < t10) then
 bif decide (0 ≤ t11) then
 bif decide (t11 < (t9.2.length : Int)) then
(spec_l7Of q.1 no).bind fun r =>
(spec_l7Holds q.1 (t9.2.getD (Int.toNat t11) (true, [])) (r.1, r.2)).bind fun r1 =>
 bif r1 then
 bif decide ((IntKind.u64.wrap t11) < 0) then
 none
else 
(spec_l14Letter_L0 no q (bOr .i64 out (bShl .i64 1 (IntKind.u64.wrap t11))) t9 t10 (IntKind.i64.wrap (t11 + 1))).bind fun r => some r
else 
(spec_l14Letter_L0 no q out t9 t10 (IntKind.i64.wrap (t11 + 1))).bind fun r => some r
else none
else none
else 
 some out := Eq.trans (inf_loop_eq (H := H) 135 0 (loopCode Tryz.f135 0) (no, (q, (out, (t9, (t10, t11))))) key_spec_l14Letter) (by kernel_rfl)
theorem spec_l14Letter_eq (q : DQuestion) (no : Int) : spec_l14Letter q no =
(spec_l14Letter_L0 no q 0 q.2.1 (q.2.1.2.length : Int) 0).bind fun r =>
 some r := Eq.trans (inf_call_eq (H := H) 135 (q, no)) (by kernel_rfl)
theorem spec_l22Fit_L0_eq (q : DQuestion) (v : DSight) (class_ : Int) : spec_l22Fit_L0 q v class_ =
(spec_l15Many v).bind fun r =>
 bif decide (class_ < r) then
(spec_l15In v class_).bind fun r1 =>
(spec_l22Fit_L2 q v class_ (r1.1, r1.2) (r1.1, r1.2) (r1.2.length : Int) 0).bind fun r2 =>
 match r2 with
| .inl y =>
 some (.inl y)
| .inr z =>
(spec_l22Fit_L0 q v (IntKind.i64.wrap (class_ + 1))).bind fun r => some r
else 
 some (.inr ()) := Eq.trans (inf_loop_eq (H := H) 79 0 (loopCode Tryz.f79 0) (q, (v, class_)) key_spec_l22Fit) (by kernel_rfl)
theorem spec_l22Fit_L2_eq (q : DQuestion) (v : DSight) (class_ : Int) (in_ : Bool × List Int) (t18 : Bool × List Int) (t19 : Int) (t20 : Int) : spec_l22Fit_L2 q v class_ in_ t18 t19 t20 =
 bif decide (t20 < t19) then
 bif decide (0 ≤ t20) then
 bif decide (t20 < (t18.2.length : Int)) then
(spec_l14Letter q (t18.2.getD (Int.toNat t20) 0)).bind fun r =>
 bif decide (0 < (in_.2.length : Int)) then
(spec_l14Letter q (in_.2.getD 0 0)).bind fun r1 =>
 bif (r != r1) then
 some (.inl false)
else 
(spec_l22Fit_L2 q v class_ in_ t18 t19 (IntKind.i64.wrap (t20 + 1))).bind fun r => some r
else none
else none
else none
else 
 some (.inr ()) := Eq.trans (inf_loop_eq (H := H) 79 2 (loopCode Tryz.f79 2) (q, (v, (class_, (in_, (t18, (t19, t20)))))) key_spec_l22Fit) (by kernel_rfl)
theorem spec_l22Fit_eq (q : DQuestion) (v : DSight) : spec_l22Fit q v =
(spec_l22Fit_L0 q v 0).bind fun r =>
 match r with
| .inl y =>
 some y
| .inr z =>
 some true := Eq.trans (inf_call_eq (H := H) 79 (q, v)) (by kernel_rfl)
theorem spec_l22Letter_eq (q : DQuestion) (v : DSight) (class_ : Int) : spec_l22Letter q v class_ =
(spec_l15In v class_).bind fun r =>
 bif decide (0 < (r.2.length : Int)) then
(spec_l14Letter q (r.2.getD 0 0)).bind fun r1 =>
 some r1
else none := Eq.trans (inf_call_eq (H := H) 88 (q, (v, class_))) (by kernel_rfl)
theorem spec_ClassLetter_eq (q : DQuestion) (v : DSight) (class_ : Int) : spec_ClassLetter q v class_ =
(spec_l22Sight q v).bind fun r =>
 bif !r then
 some (0, false)
else 
(spec_l22Fit q v).bind fun r1 =>
 bif !r1 then
 some (0, false)
else 
(spec_l15Many v).bind fun r2 =>
(spec_l1In class_ 0 (IntKind.i64.wrap (r2 - 1))).bind fun r3 =>
 bif !r3 then
 some (0, false)
else 
(spec_l22Letter q v class_).bind fun r4 =>
 some (r4, true) := Eq.trans (inf_call_eq (H := H) 37 (q, (v, class_))) (by kernel_rfl)
theorem impl_isWide_eq (n : Int) : impl_isWide n =
 bif decide (n ≥ 1) then
 some (decide (n ≤ 64))
else 
 some false := Eq.trans (inf_call_eq (H := H) 232 n) (by kernel_rfl)
theorem impl_isVars_eq (n : Int) : impl_isVars n =
 bif decide (n ≥ 1) then
 some (decide (n ≤ 4))
else 
 some false := Eq.trans (inf_call_eq (H := H) 233 n) (by kernel_rfl)
theorem impl_operandsOf_eq (op : Int) : impl_operandsOf op =
 bif (op == 1) then
 some (0, (0, 1))
else 
 bif (op == 2) then
 some (0, (0, 1))
else 
 bif (op == 20) then
 some (0, (0, 2))
else 
 bif (op == 13) then
 some (1, (1, 1))
else 
 bif (op == 19) then
 some (1, (2, 2))
else 
 bif decide (op ≥ 3) then
 bif decide (op ≤ 12) then
 some (2, (1, 1))
else 
 bif decide (op ≥ 14) then
 bif decide (op ≤ 16) then
 some (2, (1, 2))
else 
 bif (op == 17) then
 some (2, (2, 2))
else 
 bif (op == 18) then
 some (2, (2, 2))
else 
 some (0, (0, 0))
else 
 bif (op == 17) then
 some (2, (2, 2))
else 
 bif (op == 18) then
 some (2, (2, 2))
else 
 some (0, (0, 0))
else 
 bif decide (op ≥ 14) then
 bif decide (op ≤ 16) then
 some (2, (1, 2))
else 
 bif (op == 17) then
 some (2, (2, 2))
else 
 bif (op == 18) then
 some (2, (2, 2))
else 
 some (0, (0, 0))
else 
 bif (op == 17) then
 some (2, (2, 2))
else 
 bif (op == 18) then
 some (2, (2, 2))
else 
 some (0, (0, 0)) := Eq.trans (inf_call_eq (H := H) 242 op) (by kernel_rfl)
theorem impl_mask_eq (wide : Int) : impl_mask wide =
 bif decide ((IntKind.i64.wrap (64 - wide)) < 0) then
 none
else 
 some (bShr .u64 18446744073709551615 (IntKind.i64.wrap (64 - wide))) := Eq.trans (inf_call_eq (H := H) 149 wide) (by kernel_rfl)
theorem impl_GoodWord_eq (wide : Int) (a : Int) : impl_GoodWord wide a =
(impl_isWide wide).bind fun r =>
 bif r then
(impl_mask wide).bind fun r1 =>
 some (decide (a ≤ r1))
else 
 some false := Eq.trans (inf_call_eq (H := H) 271 (wide, a)) (by kernel_rfl)
theorem impl_isLeafRight_eq (wide : Int) (vars : Int) (x : DNode) : impl_isLeafRight wide vars x =
 bif (x.1 == 1) then
(impl_GoodWord wide x.2).bind fun r =>
 some r
else 
 bif (x.1 == 2) then
 some (decide (x.2 < (IntKind.u64.wrap vars)))
else 
 bif (x.1 == 20) then
 some (decide (x.2 ≤ 1))
else 
 some (x.2 == 0) := Eq.trans (inf_call_eq (H := H) 243 (wide, (vars, x))) (by kernel_rfl)
theorem impl_GoodTerm_1_eq (own : Int) (a1 : Int) : impl_GoodTerm_1 own a1 =
 some (own != a1) := Eq.trans (inf_call_eq (H := H) 244 (own, a1)) (by kernel_rfl)
theorem slices_IndexFunc_int_by_GoodTerm_1_L0_eq (s : Bool × List Int) (f : Int × Unit) (t7 : Int) (t8 : Int) : slices_IndexFunc_int_by_GoodTerm_1_L0 s f t7 t8 =
 bif decide (t8 < t7) then
 bif decide (0 ≤ t8) then
 bif decide (t8 < (s.2.length : Int)) then
(impl_GoodTerm_1 (s.2.getD (Int.toNat t8) 0) f.1).bind fun r =>
 bif r then
 some (.inl t8)
else 
(slices_IndexFunc_int_by_GoodTerm_1_L0 s f t7 (IntKind.i64.wrap (t8 + 1))).bind fun r => some r
else none
else none
else 
 some (.inr ()) := Eq.trans (inf_loop_eq (H := H) 129 0 (loopCode Tryz.f129 0) (s, (f, (t7, t8))) key_slices_IndexFunc_int_by_GoodTerm_1) (by kernel_rfl)
theorem slices_IndexFunc_int_by_GoodTerm_1_eq (s : Bool × List Int) (f : Int × Unit) : slices_IndexFunc_int_by_GoodTerm_1 s f =
(slices_IndexFunc_int_by_GoodTerm_1_L0 s f (s.2.length : Int) 0).bind fun r =>
 match r with
| .inl y =>
 some y
| .inr z =>
 some (-1) := Eq.trans (inf_call_eq (H := H) 129 (s, f)) (by kernel_rfl)
theorem slices_ContainsFunc_int_by_GoodTerm_1_eq (s : Bool × List Int) (f : Int × Unit) : slices_ContainsFunc_int_by_GoodTerm_1 s f =
(slices_IndexFunc_int_by_GoodTerm_1 s f).bind fun r =>
 some (decide (r ≥ 0)) := Eq.trans (inf_call_eq (H := H) 70 (s, f)) (by kernel_rfl)
theorem impl_GoodTerm_L0_eq (wide : Int) (vars : Int) (stack : Bool × List Int) (t33 : Bool × List DNode) (t34 : Int) (t35 : Int) : impl_GoodTerm_L0 wide vars stack t33 t34 t35 =
 bif decide (t35 < t34) then
 bif decide (0 ≤ t35) then
 bif decide (t35 < (t33.2.length : Int)) then
(impl_operandsOf ((t33.2.getD (Int.toNat t35) (0, 0)).1)).bind fun r =>
 bif (r.2.2 == 0) then
 some (.inl false)
else 
(impl_isLeafRight wide vars (t33.2.getD (Int.toNat t35) (0, 0))).bind fun r1 =>
 bif !r1 then
 some (.inl false)
else 
 bif decide ((IntKind.i64.wrap ((stack.2.length : Int) - r.1)) < 0) then
 some (.inl false)
else 
 bif decide (0 ≤ (IntKind.i64.wrap ((stack.2.length : Int) - r.1))) then
 bif decide ((IntKind.i64.wrap ((stack.2.length : Int) - r.1)) ≤ (stack.2.length : Int)) then
(slices_ContainsFunc_int_by_GoodTerm_1 (stack.1, ((stack.2.take stack.2.length).drop (Int.toNat (IntKind.i64.wrap ((stack.2.length : Int) - r.1))))) (r.2.1, ())).bind fun r2 =>
 bif r2 then
 some (.inl false)
else 
 bif decide (0 ≤ (IntKind.i64.wrap ((stack.2.length : Int) - r.1))) then
 bif decide ((IntKind.i64.wrap ((stack.2.length : Int) - r.1)) ≤ (stack.2.length : Int)) then
 bif decide (((stack.2.take (Int.toNat (IntKind.i64.wrap ((stack.2.length : Int) - r.1)))).drop 0).length + [r.2.2].length ≤ lim) then
(impl_GoodTerm_L0 wide vars ((stack.1 && false), (((stack.2.take (Int.toNat (IntKind.i64.wrap ((stack.2.length : Int) - r.1)))).drop 0) ++ [r.2.2])) t33 t34 (IntKind.i64.wrap (t35 + 1))).bind fun r => some r
else none
else none
else none
else none
else none
else none
else none
else 
 some (.inr (stack.1, stack.2)) := Eq.trans (inf_loop_eq (H := H) 181 0 (loopCode Tryz.f181 0) (wide, (vars, (stack, (t33, (t34, t35))))) key_impl_GoodTerm) (by kernel_rfl)
theorem impl_GoodTerm_eq (wide : Int) (vars : Int) (t : Bool × List DNode) : impl_GoodTerm wide vars t =
(impl_isWide wide).bind fun r =>
 bif !r then
 some false
else 
(impl_isVars vars).bind fun r1 =>
 bif !r1 then
 some false
else 
 bif decide ((t.2.length : Int) < 1) then
 some false
else 
 bif decide ((t.2.length : Int) > 48) then
 some false
else 
(impl_GoodTerm_L0 wide vars (false, []) t (t.2.length : Int) 0).bind fun r2 =>
 match r2 with
| .inl y =>
 some y
| .inr z =>
 some ((z.2.length : Int) == 1) := Eq.trans (inf_call_eq (H := H) 181 (wide, (vars, t))) (by kernel_rfl)
theorem impl_kindOf_eq (t : Bool × List DNode) : impl_kindOf t =
 bif decide (0 ≤ (IntKind.i64.wrap ((t.2.length : Int) - 1))) then
 bif decide ((IntKind.i64.wrap ((t.2.length : Int) - 1)) < (t.2.length : Int)) then
(impl_operandsOf ((t.2.getD (Int.toNat (IntKind.i64.wrap ((t.2.length : Int) - 1))) (0, 0)).1)).bind fun r =>
 some r.2.2
else none
else none := Eq.trans (inf_call_eq (H := H) 182 t) (by kernel_rfl)
theorem impl_isTermOf_eq (wide : Int) (vars : Int) (t : Bool × List DNode) (kind : Int) : impl_isTermOf wide vars t kind =
(impl_GoodTerm wide vars t).bind fun r =>
 bif r then
(impl_kindOf t).bind fun r1 =>
 some (r1 == kind)
else 
 some false := Eq.trans (inf_call_eq (H := H) 126 (wide, (vars, (t, kind)))) (by kernel_rfl)
theorem impl_Program_isCondition_eq (p : DProgram) (t : Bool × List DNode) : impl_Program_isCondition p t =
(impl_isTermOf p.1 p.2.1 t 2).bind fun r =>
 some r := Eq.trans (inf_call_eq (H := H) 67 (p, t)) (by kernel_rfl)
theorem impl_Program_isCommand_L0_eq (p : DProgram) (c : DCommand) (t13 : Bool × List DChange) (t14 : Int) (t15 : Int) : impl_Program_isCommand_L0 p c t13 t14 t15 =
 bif decide (t15 < t14) then
 bif decide (0 ≤ t15) then
 bif decide (t15 < (t13.2.length : Int)) then
 bif decide (((t13.2.getD (Int.toNat t15) (0, (true, []))).1) < 0) then
 some (.inl false)
else 
 bif decide (((t13.2.getD (Int.toNat t15) (0, (true, []))).1) ≥ p.2.1) then
 some (.inl false)
else 
 bif decide (t15 > 0) then
 bif decide (0 ≤ (IntKind.i64.wrap (t15 - 1))) then
 bif decide ((IntKind.i64.wrap (t15 - 1)) < (c.2.2.length : Int)) then
 bif decide (((c.2.2.getD (Int.toNat (IntKind.i64.wrap (t15 - 1))) (0, (true, []))).1) ≥ ((t13.2.getD (Int.toNat t15) (0, (true, []))).1)) then
 some (.inl false)
else 
(impl_isTermOf p.1 p.2.1 ((t13.2.getD (Int.toNat t15) (0, (true, []))).2) 1).bind fun r =>
 bif !r then
 some (.inl false)
else 
(impl_Program_isCommand_L0 p c t13 t14 (IntKind.i64.wrap (t15 + 1))).bind fun r => some r
else none
else none
else 
(impl_isTermOf p.1 p.2.1 ((t13.2.getD (Int.toNat t15) (0, (true, []))).2) 1).bind fun r1 =>
 bif !r1 then
 some (.inl false)
else 
(impl_Program_isCommand_L0 p c t13 t14 (IntKind.i64.wrap (t15 + 1))).bind fun r => some r
else none
else none
else 
 some (.inr ()) := Eq.trans (inf_loop_eq (H := H) 236 0 (loopCode Tryz.f236 0) (p, (c, (t13, (t14, t15)))) key_impl_Program_isCommand) (by kernel_rfl)
theorem impl_Program_isCommand_eq (p : DProgram) (c : DCommand) : impl_Program_isCommand p c =
(impl_Program_isCondition p c.1).bind fun r =>
 bif !r then
 some false
else 
(impl_Program_isCommand_L0 p c c.2 (c.2.2.length : Int) 0).bind fun r1 =>
 match r1 with
| .inl y =>
 some y
| .inr z =>
 some true := Eq.trans (inf_call_eq (H := H) 236 (p, c)) (by kernel_rfl)
theorem impl_GoodProgram_1_eq (c : DCommand) (a1 : DProgram) : impl_GoodProgram_1 c a1 =
(impl_Program_isCommand a1 c).bind fun r =>
 some (!r) := Eq.trans (inf_call_eq (H := H) 235 (c, a1)) (by kernel_rfl)
theorem slices_IndexFunc_Command_by_GoodProgram_1_L0_eq (s : Bool × List DCommand) (f : DProgram × Unit) (t7 : Int) (t8 : Int) : slices_IndexFunc_Command_by_GoodProgram_1_L0 s f t7 t8 =
 bif decide (t8 < t7) then
 bif decide (0 ≤ t8) then
 bif decide (t8 < (s.2.length : Int)) then
(impl_GoodProgram_1 (s.2.getD (Int.toNat t8) ((true, []), (true, []))) f.1).bind fun r =>
 bif r then
 some (.inl t8)
else 
(slices_IndexFunc_Command_by_GoodProgram_1_L0 s f t7 (IntKind.i64.wrap (t8 + 1))).bind fun r => some r
else none
else none
else 
 some (.inr ()) := Eq.trans (inf_loop_eq (H := H) 266 0 (loopCode Tryz.f266 0) (s, (f, (t7, t8))) key_slices_IndexFunc_Command_by_GoodProgram_1) (by kernel_rfl)
theorem slices_IndexFunc_Command_by_GoodProgram_1_eq (s : Bool × List DCommand) (f : DProgram × Unit) : slices_IndexFunc_Command_by_GoodProgram_1 s f =
(slices_IndexFunc_Command_by_GoodProgram_1_L0 s f (s.2.length : Int) 0).bind fun r =>
 match r with
| .inl y =>
 some y
| .inr z =>
 some (-1) := Eq.trans (inf_call_eq (H := H) 266 (s, f)) (by kernel_rfl)
theorem slices_ContainsFunc_Command_by_GoodProgram_1_eq (s : Bool × List DCommand) (f : DProgram × Unit) : slices_ContainsFunc_Command_by_GoodProgram_1 s f =
(slices_IndexFunc_Command_by_GoodProgram_1 s f).bind fun r =>
 some (decide (r ≥ 0)) := Eq.trans (inf_call_eq (H := H) 234 (s, f)) (by kernel_rfl)
theorem impl_GoodProgram_eq (p : DProgram) : impl_GoodProgram p =
(impl_isWide p.1).bind fun r =>
 bif !r then
 some false
else 
(impl_isVars p.2.1).bind fun r1 =>
 bif !r1 then
 some false
else 
(impl_Program_isCondition p p.2.2.1).bind fun r2 =>
 bif !r2 then
 some false
else 
 bif decide ((p.2.2.2.2.length : Int) < 1) then
 some false
else 
 bif decide ((p.2.2.2.2.length : Int) > 6) then
 some false
else 
(slices_ContainsFunc_Command_by_GoodProgram_1 p.2.2.2 (p, ())).bind fun r3 =>
 some (!r3) := Eq.trans (inf_call_eq (H := H) 174 p) (by kernel_rfl)
theorem impl_isSmall_eq (p : DProgram) : impl_isSmall p =
(impl_GoodProgram p).bind fun r =>
 bif r then
 some (decide ((IntKind.i64.wrap (p.1 * p.2.1)) ≤ 5))
else 
 some false := Eq.trans (inf_call_eq (H := H) 116 p) (by kernel_rfl)
theorem impl_operandsOfSaid_eq (op : Int) : impl_operandsOfSaid op =
 bif (op == 1) then
 bif (op == 1) then
 some 0
else 
 bif (op == 3) then
 bif (op == 3) then
 some 1
else 
 bif (op == 5) then
 bif (op == 5) then
 some 2
else 
 some (-1)
else 
 bif (op == 6) then
 bif (op == 6) then
 some 2
else 
 some (-1)
else 
 bif (op == 7) then
 bif (op == 7) then
 some 2
else 
 some (-1)
else 
 bif (op == 8) then
 some 2
else 
 some (-1)
else 
 bif (op == 4) then
 some 1
else 
 bif (op == 5) then
 bif (op == 5) then
 some 2
else 
 some (-1)
else 
 bif (op == 6) then
 bif (op == 6) then
 some 2
else 
 some (-1)
else 
 bif (op == 7) then
 bif (op == 7) then
 some 2
else 
 some (-1)
else 
 bif (op == 8) then
 some 2
else 
 some (-1)
else 
 bif (op == 2) then
 some 0
else 
 bif (op == 3) then
 bif (op == 3) then
 some 1
else 
 bif (op == 5) then
 bif (op == 5) then
 some 2
else 
 some (-1)
else 
 bif (op == 6) then
 bif (op == 6) then
 some 2
else 
 some (-1)
else 
 bif (op == 7) then
 bif (op == 7) then
 some 2
else 
 some (-1)
else 
 bif (op == 8) then
 some 2
else 
 some (-1)
else 
 bif (op == 4) then
 some 1
else 
 bif (op == 5) then
 bif (op == 5) then
 some 2
else 
 some (-1)
else 
 bif (op == 6) then
 bif (op == 6) then
 some 2
else 
 some (-1)
else 
 bif (op == 7) then
 bif (op == 7) then
 some 2
else 
 some (-1)
else 
 bif (op == 8) then
 some 2
else 
 some (-1) := Eq.trans (inf_call_eq (H := H) 151 op) (by kernel_rfl)
theorem impl_isSaid_eq (x : DSaid) : impl_isSaid x =
 bif (x.1 == 1) then
 bif decide (x.2 ≥ 0) then
 some (decide (x.2 < 3))
else 
 some false
else 
 bif (x.1 == 2) then
 bif (x.2 == 0) then
 some true
else 
 some (x.2 == 1)
else 
(impl_operandsOfSaid x.1).bind fun r =>
 bif decide (r > 0) then
 some (x.2 == 0)
else 
 some false := Eq.trans (inf_call_eq (H := H) 274 x) (by kernel_rfl)
theorem impl_GoodSaid_L0_eq (values : Int) (t15 : Bool × List DSaid) (t16 : Int) (t17 : Int) : impl_GoodSaid_L0 values t15 t16 t17 =
 bif decide (t17 < t16) then
 bif decide (0 ≤ t17) then
 bif decide (t17 < (t15.2.length : Int)) then
(impl_operandsOfSaid ((t15.2.getD (Int.toNat t17) (0, 0)).1)).bind fun r =>
(impl_isSaid (t15.2.getD (Int.toNat t17) (0, 0))).bind fun r1 =>
 bif !r1 then
 some (.inl false)
else 
 bif decide (values < r) then
 some (.inl false)
else 
(impl_GoodSaid_L0 (IntKind.i64.wrap (values + (IntKind.i64.wrap (1 - r)))) t15 t16 (IntKind.i64.wrap (t17 + 1))).bind fun r => some r
else none
else none
else 
 some (.inr values) := Eq.trans (inf_loop_eq (H := H) 246 0 (loopCode Tryz.f246 0) (values, (t15, (t16, t17))) key_impl_GoodSaid) (by kernel_rfl)
theorem impl_GoodSaid_eq (f : Bool × List DSaid) : impl_GoodSaid f =
 bif decide ((f.2.length : Int) < 1) then
 some false
else 
 bif decide ((f.2.length : Int) > 16) then
 some false
else 
(impl_GoodSaid_L0 0 f (f.2.length : Int) 0).bind fun r =>
 match r with
| .inl y =>
 some y
| .inr z =>
 some (z == 1) := Eq.trans (inf_call_eq (H := H) 246 f) (by kernel_rfl)
theorem slices_Clone_int_eq (s : Bool × List Int) : slices_Clone_int s =
 bif s.1 then
 some (true, [])
else 
 bif decide (([] : List Int).length + s.2.length ≤ lim) then
 some (false, ([] ++ s.2))
else none := Eq.trans (inf_call_eq (H := H) 227 s) (by kernel_rfl)
theorem impl_operandIndexes_L0_eq (out : Bool × List (Bool × List Int)) (stack : Bool × List Int) (t10 : Bool × List DSaid) (t11 : Int) (t12 : Int) : impl_operandIndexes_L0 out stack t10 t11 t12 =
 bif decide (t12 < t11) then
 bif decide (0 ≤ t12) then
 bif decide (t12 < (t10.2.length : Int)) then
(impl_operandsOfSaid ((t10.2.getD (Int.toNat t12) (0, 0)).1)).bind fun r =>
 bif decide (0 ≤ (IntKind.i64.wrap ((stack.2.length : Int) - r))) then
 bif decide ((IntKind.i64.wrap ((stack.2.length : Int) - r)) ≤ (stack.2.length : Int)) then
(slices_Clone_int (stack.1, ((stack.2.take stack.2.length).drop (Int.toNat (IntKind.i64.wrap ((stack.2.length : Int) - r)))))).bind fun r1 =>
 bif decide (out.2.length + [(r1.1, r1.2)].length ≤ lim) then
 bif decide (0 ≤ (IntKind.i64.wrap ((stack.2.length : Int) - r))) then
 bif decide ((IntKind.i64.wrap ((stack.2.length : Int) - r)) ≤ (stack.2.length : Int)) then
 bif decide (((stack.2.take (Int.toNat (IntKind.i64.wrap ((stack.2.length : Int) - r)))).drop 0).length + [t12].length ≤ lim) then
(impl_operandIndexes_L0 ((out.1 && false), (out.2 ++ [(r1.1, r1.2)])) ((stack.1 && false), (((stack.2.take (Int.toNat (IntKind.i64.wrap ((stack.2.length : Int) - r)))).drop 0) ++ [t12])) t10 t11 (IntKind.i64.wrap (t12 + 1))).bind fun r => some r
else none
else none
else none
else none
else none
else none
else none
else none
else 
 some (out.1, out.2) := Eq.trans (inf_loop_eq (H := H) 215 0 (loopCode Tryz.f215 0) (out, (stack, (t10, (t11, t12)))) key_impl_operandIndexes) (by kernel_rfl)
theorem impl_operandIndexes_eq (f : Bool × List DSaid) : impl_operandIndexes f =
(impl_operandIndexes_L0 (false, []) (false, []) f (f.2.length : Int) 0).bind fun r =>
 some (r.1, r.2) := Eq.trans (inf_call_eq (H := H) 215 f) (by kernel_rfl)
theorem slices_Sort_int_eq (s : Bool × List Int) : slices_Sort_int s =
(sortI s).bind fun r => some r := Eq.trans (inf_call_eq (H := H) 257 s) (by kernel_rfl)
theorem slices_Compact_int_eq (s : Bool × List Int) : slices_Compact_int s =
(compactI s).bind fun r => some r := Eq.trans (inf_call_eq (H := H) 258 s) (by kernel_rfl)
theorem impl_tracked_L0_eq (out : Bool × List Int) (operands : Bool × List (Bool × List Int)) (t13 : Bool × List DSaid) (t14 : Int) (t15 : Int) : impl_tracked_L0 out operands t13 t14 t15 =
 bif decide (t15 < t14) then
 bif decide (0 ≤ t15) then
 bif decide (t15 < (t13.2.length : Int)) then
 bif (((t13.2.getD (Int.toNat t15) (0, 0)).1) == 7) then
 bif (((t13.2.getD (Int.toNat t15) (0, 0)).1) == 7) then
 bif decide (0 ≤ t15) then
 bif decide (t15 < (operands.2.length : Int)) then
 bif decide (1 < (((operands.2.getD (Int.toNat t15) (true, [])).2).length : Int)) then
 bif decide (out.2.length + [t15, (((operands.2.getD (Int.toNat t15) (true, [])).2).getD 1 0)].length ≤ lim) then
(impl_tracked_L0 ((out.1 && false), (out.2 ++ [t15, (((operands.2.getD (Int.toNat t15) (true, [])).2).getD 1 0)])) operands t13 t14 (IntKind.i64.wrap (t15 + 1))).bind fun r => some r
else none
else none
else none
else none
else 
 bif (((t13.2.getD (Int.toNat t15) (0, 0)).1) == 4) then
 bif decide (0 ≤ t15) then
 bif decide (t15 < (operands.2.length : Int)) then
 bif decide (0 < (((operands.2.getD (Int.toNat t15) (true, [])).2).length : Int)) then
 bif decide (out.2.length + [(((operands.2.getD (Int.toNat t15) (true, [])).2).getD 0 0)].length ≤ lim) then
(impl_tracked_L0 ((out.1 && false), (out.2 ++ [(((operands.2.getD (Int.toNat t15) (true, [])).2).getD 0 0)])) operands t13 t14 (IntKind.i64.wrap (t15 + 1))).bind fun r => some r
else none
else none
else none
else none
else 
(impl_tracked_L0 (out.1, out.2) operands t13 t14 (IntKind.i64.wrap (t15 + 1))).bind fun r => some r
else 
 bif (((t13.2.getD (Int.toNat t15) (0, 0)).1) == 8) then
 bif decide (0 ≤ t15) then
 bif decide (t15 < (operands.2.length : Int)) then
 bif decide (1 < (((operands.2.getD (Int.toNat t15) (true, [])).2).length : Int)) then
 bif decide (out.2.length + [t15, (((operands.2.getD (Int.toNat t15) (true, [])).2).getD 1 0)].length ≤ lim) then
(impl_tracked_L0 ((out.1 && false), (out.2 ++ [t15, (((operands.2.getD (Int.toNat t15) (true, [])).2).getD 1 0)])) operands t13 t14 (IntKind.i64.wrap (t15 + 1))).bind fun r => some r
else none
else none
else none
else none
else 
 bif (((t13.2.getD (Int.toNat t15) (0, 0)).1) == 4) then
 bif decide (0 ≤ t15) then
 bif decide (t15 < (operands.2.length : Int)) then
 bif decide (0 < (((operands.2.getD (Int.toNat t15) (true, [])).2).length : Int)) then
 bif decide (out.2.length + [(((operands.2.getD (Int.toNat t15) (true, [])).2).getD 0 0)].length ≤ lim) then
(impl_tracked_L0 ((out.1 && false), (out.2 ++ [(((operands.2.getD (Int.toNat t15) (true, [])).2).getD 0 0)])) operands t13 t14 (IntKind.i64.wrap (t15 + 1))).bind fun r => some r
else none
else none
else none
else none
else 
(impl_tracked_L0 (out.1, out.2) operands t13 t14 (IntKind.i64.wrap (t15 + 1))).bind fun r => some r
else none
else none
else 
 some (out.1, out.2) := Eq.trans (inf_loop_eq (H := H) 212 0 (loopCode Tryz.f212 0) (out, (operands, (t13, (t14, t15)))) key_impl_tracked) (by kernel_rfl)
theorem impl_tracked_eq (f : Bool × List DSaid) : impl_tracked f =
(impl_operandIndexes f).bind fun r =>
(impl_tracked_L0 (false, [IntKind.i64.wrap ((f.2.length : Int) - 1)]) (r.1, r.2) f (f.2.length : Int) 0).bind fun r1 =>
(slices_Sort_int (r1.1, r1.2)).bind fun r2 =>
(slices_Compact_int (r2.1, r2.2)).bind fun r3 =>
 some (r3.1, r3.2) := Eq.trans (inf_call_eq (H := H) 212 f) (by kernel_rfl)
theorem impl_isTracked_eq (f : Bool × List DSaid) : impl_isTracked f =
(impl_GoodSaid f).bind fun r =>
 bif r then
(impl_tracked f).bind fun r1 =>
 some (decide ((r1.2.length : Int) ≤ 5))
else 
 some false := Eq.trans (inf_call_eq (H := H) 188 f) (by kernel_rfl)
theorem impl_GoodQuestion_1_eq (t : Bool × List DNode) (a1 : DQuestion) : impl_GoodQuestion_1 t a1 =
(impl_Program_isCondition a1.1 t).bind fun r =>
 some (!r) := Eq.trans (inf_call_eq (H := H) 190 (t, a1)) (by kernel_rfl)
theorem slices_IndexFunc_Node_by_GoodQuestion_1_L0_eq (s : Bool × List (Bool × List DNode)) (f : DQuestion × Unit) (t7 : Int) (t8 : Int) : slices_IndexFunc_Node_by_GoodQuestion_1_L0 s f t7 t8 =
 bif decide (t8 < t7) then
 bif decide (0 ≤ t8) then
 bif decide (t8 < (s.2.length : Int)) then
(impl_GoodQuestion_1 (s.2.getD (Int.toNat t8) (true, [])) f.1).bind fun r =>
 bif r then
 some (.inl t8)
else 
(slices_IndexFunc_Node_by_GoodQuestion_1_L0 s f t7 (IntKind.i64.wrap (t8 + 1))).bind fun r => some r
else none
else none
else 
 some (.inr ()) := Eq.trans (inf_loop_eq (H := H) 247 0 (loopCode Tryz.f247 0) (s, (f, (t7, t8))) key_slices_IndexFunc_Node_by_GoodQuestion_1) (by kernel_rfl)
theorem slices_IndexFunc_Node_by_GoodQuestion_1_eq (s : Bool × List (Bool × List DNode)) (f : DQuestion × Unit) : slices_IndexFunc_Node_by_GoodQuestion_1 s f =
(slices_IndexFunc_Node_by_GoodQuestion_1_L0 s f (s.2.length : Int) 0).bind fun r =>
 match r with
| .inl y =>
 some y
| .inr z =>
 some (-1) := Eq.trans (inf_call_eq (H := H) 247 (s, f)) (by kernel_rfl)
theorem slices_ContainsFunc_Node_by_GoodQuestion_1_eq (s : Bool × List (Bool × List DNode)) (f : DQuestion × Unit) : slices_ContainsFunc_Node_by_GoodQuestion_1 s f =
(slices_IndexFunc_Node_by_GoodQuestion_1 s f).bind fun r =>
 some (decide (r ≥ 0)) := Eq.trans (inf_call_eq (H := H) 189 (s, f)) (by kernel_rfl)
theorem impl_GoodQuestion_eq (q : DQuestion) : impl_GoodQuestion q =
(impl_isSmall q.1).bind fun r =>
 bif !r then
 some false
else 
 bif ((q.2.1.2.length : Int) != 3) then
 some false
else 
(impl_isTracked q.2.2).bind fun r1 =>
 bif !r1 then
 some false
else 
(slices_ContainsFunc_Node_by_GoodQuestion_1 q.2.1 (q, ())).bind fun r2 =>
 some (!r2) := Eq.trans (inf_call_eq (H := H) 137 q) (by kernel_rfl)
theorem impl_Program_states_eq (p : DProgram) : impl_Program_states p =
 bif decide ((IntKind.i64.wrap (p.1 * p.2.1)) < 0) then
 none
else 
 some (bShl .i64 1 (IntKind.i64.wrap (p.1 * p.2.1))) := Eq.trans (inf_call_eq (H := H) 118 p) (by kernel_rfl)
theorem impl_isSight_L0_eq (states : Int) (v : DSight) (classes : Int) (t9 : Bool × List Int) (t10 : Int) (t11 : Int) : impl_isSight_L0 states v classes t9 t10 t11 =
 bif decide (t11 < t10) then
 bif decide (0 ≤ t11) then
 bif decide (t11 < (t9.2.length : Int)) then
 bif decide ((t9.2.getD (Int.toNat t11) 0) < 0) then
 some (.inl false)
else 
 bif decide ((t9.2.getD (Int.toNat t11) 0) > classes) then
 some (.inl false)
else 
 bif ((t9.2.getD (Int.toNat t11) 0) == classes) then
(impl_isSight_L0 states v (IntKind.i64.wrap (classes + 1)) t9 t10 (IntKind.i64.wrap (t11 + 1))).bind fun r => some r
else 
(impl_isSight_L0 states v classes t9 t10 (IntKind.i64.wrap (t11 + 1))).bind fun r => some r
else none
else none
else 
 some (.inr ()) := Eq.trans (inf_loop_eq (H := H) 117 0 (loopCode Tryz.f117 0) (states, (v, (classes, (t9, (t10, t11))))) key_impl_isSight) (by kernel_rfl)
theorem impl_isSight_eq (v : DSight) (states : Int) : impl_isSight v states =
(impl_isSight_L0 states v 0 v (v.2.length : Int) 0).bind fun r =>
 match r with
| .inl y =>
 some y
| .inr z =>
 some ((v.2.length : Int) == states) := Eq.trans (inf_call_eq (H := H) 117 (v, states)) (by kernel_rfl)
theorem impl_GoodSight_eq (p : DProgram) (v : DSight) : impl_GoodSight p v =
(impl_isSmall p).bind fun r =>
 bif r then
(impl_Program_states p).bind fun r1 =>
(impl_isSight v r1).bind fun r2 =>
 some r2
else 
 some false := Eq.trans (inf_call_eq (H := H) 58 (p, v)) (by kernel_rfl)
theorem impl_isSightOf_eq (q : DQuestion) (v : DSight) : impl_isSightOf q v =
(impl_GoodQuestion q).bind fun r =>
 bif r then
(impl_GoodSight q.1 v).bind fun r1 =>
 some r1
else 
 some false := Eq.trans (inf_call_eq (H := H) 82 (q, v)) (by kernel_rfl)
theorem slices_Max_int_L0_eq (x : Bool × List Int) (m : Int) (i : Int) : slices_Max_int_L0 x m i =
 bif decide (i < (x.2.length : Int)) then
 bif decide (0 ≤ i) then
 bif decide (i < (x.2.length : Int)) then
(slices_Max_int_L0 x (bif decide (m < (x.2.getD (Int.toNat i) 0)) then (x.2.getD (Int.toNat i) 0) else m) (IntKind.i64.wrap (i + 1))).bind fun r => some r
else none
else none
else 
 some m := Eq.trans (inf_loop_eq (H := H) 183 0 (loopCode Tryz.f183 0) (x, (m, i)) key_slices_Max_int) (by kernel_rfl)
theorem slices_Max_int_eq (x : Bool × List Int) : slices_Max_int x =
 bif decide ((x.2.length : Int) < 1) then
 none
else 
 bif decide (0 < (x.2.length : Int)) then
(slices_Max_int_L0 x (x.2.getD 0 0) 1).bind fun r =>
 some r
else none := Eq.trans (inf_call_eq (H := H) 183 x) (by kernel_rfl)
theorem impl_Sight_classes_eq (v : DSight) : impl_Sight_classes v =
(slices_Max_int v).bind fun r =>
 some (IntKind.i64.wrap (r + 1)) := Eq.trans (inf_call_eq (H := H) 127 v) (by kernel_rfl)
theorem bits_Mul64_eq (x : Int) (y : Int) : bits_Mul64 x y =
 some (IntKind.u64.wrap ((IntKind.u64.wrap ((IntKind.u64.wrap ((bShr .u64 x 32) * (bShr .u64 y 32))) + (bShr .u64 (IntKind.u64.wrap ((IntKind.u64.wrap ((bShr .u64 x 32) * (bAnd .u64 y 4294967295))) + (bShr .u64 (IntKind.u64.wrap ((bAnd .u64 x 4294967295) * (bAnd .u64 y 4294967295))) 32))) 32))) + (bShr .u64 (IntKind.u64.wrap ((bAnd .u64 (IntKind.u64.wrap ((IntKind.u64.wrap ((bShr .u64 x 32) * (bAnd .u64 y 4294967295))) + (bShr .u64 (IntKind.u64.wrap ((bAnd .u64 x 4294967295) * (bAnd .u64 y 4294967295))) 32))) 4294967295) + (IntKind.u64.wrap ((bAnd .u64 x 4294967295) * (bShr .u64 y 32))))) 32)), IntKind.u64.wrap (x * y)) := Eq.trans (inf_call_eq (H := H) 249 (x, y)) (by kernel_rfl)
theorem bits_Mul_eq (x : Int) (y : Int) : bits_Mul x y =
(bits_Mul64 x y).bind fun r =>
 some (r.1, r.2) := Eq.trans (inf_call_eq (H := H) 191 (x, y)) (by kernel_rfl)
theorem slices_Repeat_int_L0_eq (newslice : Bool × List Int) (n : Int) : slices_Repeat_int_L0 newslice n =
 bif decide (n < (newslice.2.length : Int)) then
 bif decide (0 ≤ n) then
 bif decide (n ≤ (newslice.2.length : Int)) then
 bif decide (0 ≤ n) then
 bif decide (n ≤ (newslice.2.length : Int)) then
(slices_Repeat_int_L0 (newslice.1, (newslice.2.take (Int.toNat n) ++ (((newslice.2.take (Int.toNat n)).drop 0).take (newslice.2.length - (Int.toNat n)) ++ newslice.2.drop ((Int.toNat n) + (min ((newslice.2.take (Int.toNat n)).drop 0).length (newslice.2.length - (Int.toNat n))))))) (IntKind.i64.wrap (n + ((min ((newslice.2.take (Int.toNat n)).drop 0).length (newslice.2.length - (Int.toNat n)) : Nat) : Int)))).bind fun r => some r
else none
else none
else none
else none
else 
 some (newslice.1, newslice.2) := Eq.trans (inf_loop_eq (H := H) 138 0 (loopCode Tryz.f138 0) (newslice, n) key_slices_Repeat_int) (by kernel_rfl)
theorem slices_Repeat_int_eq (x : Bool × List Int) (count : Int) : slices_Repeat_int x count =
 bif decide (count < 0) then
 none
else 
(bits_Mul (IntKind.u64.wrap (x.2.length : Int)) (IntKind.u64.wrap count)).bind fun r =>
 bif decide (r.1 > 0) then
 none
else 
 bif decide (r.2 > 9223372036854775807) then
 none
else 
 bif decide (0 ≤ (IntKind.i64.wrap r.2)) then
 bif decide ((IntKind.i64.wrap r.2) ≤ lim) then
 bif decide ((IntKind.i64.wrap r.2) ≤ (IntKind.i64.wrap r.2)) then
 bif decide ((IntKind.i64.wrap r.2) ≤ lim) then
(slices_Repeat_int_L0 (false, (x.2.take (List.replicate (Int.toNat (IntKind.i64.wrap r.2)) (0 : Int)).length ++ (List.replicate (Int.toNat (IntKind.i64.wrap r.2)) (0 : Int)).drop (min x.2.length (List.replicate (Int.toNat (IntKind.i64.wrap r.2)) (0 : Int)).length))) ((min x.2.length (List.replicate (Int.toNat (IntKind.i64.wrap r.2)) (0 : Int)).length : Nat) : Int)).bind fun r1 =>
 some (r1.1, r1.2)
else none
else none
else none
else none := Eq.trans (inf_call_eq (H := H) 138 (x, count)) (by kernel_rfl)
theorem impl_Program_stateOf_L0_eq (no : Int) (p : DProgram) (out : Bool × List Int) (t9 : Int) (t10 : Int) : impl_Program_stateOf_L0 no p out t9 t10 =
 bif decide (t10 < t9) then
 bif decide ((IntKind.i64.wrap (p.1 * t10)) < 0) then
 none
else 
(impl_mask p.1).bind fun r =>
 bif decide (out.2.length + [bAnd .u64 (bShr .u64 (IntKind.u64.wrap no) (IntKind.i64.wrap (p.1 * t10))) r].length ≤ lim) then
(impl_Program_stateOf_L0 no p ((out.1 && false), (out.2 ++ [bAnd .u64 (bShr .u64 (IntKind.u64.wrap no) (IntKind.i64.wrap (p.1 * t10))) r])) t9 (IntKind.i64.wrap (t10 + 1))).bind fun r => some r
else none
else 
 some (out.1, out.2) := Eq.trans (inf_loop_eq (H := H) 99 0 (loopCode Tryz.f99 0) (no, (p, (out, (t9, t10)))) key_impl_Program_stateOf) (by kernel_rfl)
theorem impl_Program_stateOf_eq (p : DProgram) (no : Int) : impl_Program_stateOf p no =
(impl_Program_stateOf_L0 no p (false, []) p.2.1 0).bind fun r =>
 some (r.1, r.2) := Eq.trans (inf_call_eq (H := H) 99 (p, no)) (by kernel_rfl)
theorem impl_areWords_eq (wide : Int) (a : Int) (b : Int) : impl_areWords wide a b =
(impl_GoodWord wide a).bind fun r =>
 bif r then
(impl_GoodWord wide b).bind fun r1 =>
 some r1
else 
 some false := Eq.trans (inf_call_eq (H := H) 275 (wide, (a, b))) (by kernel_rfl)
theorem bits_Div64_eq (hi : Int) (lo : Int) (y : Int) : bits_Div64 hi lo y =
 bif (y == 0) then
 none
else 
 bif decide (y ≤ hi) then
 none
else 
 bif (hi == 0) then
 bif (y == 0) then
 none
else 
 bif (y == 0) then
 none
else 
 some (IntKind.u64.wrap (Int.tdiv lo y), Int.tmod lo y)
else none := Eq.trans (inf_call_eq (H := H) 276 (hi, (lo, y))) (by kernel_rfl)
theorem impl_DivWord_eq (wide : Int) (a : Int) (b : Int) : impl_DivWord wide a b =
(impl_areWords wide a b).bind fun r =>
 bif !r then
 some (0, (0, false))
else 
 bif (b == 0) then
(impl_mask wide).bind fun r1 =>
 some (r1, (a, true))
else 
(bits_Div64 0 a b).bind fun r2 =>
 some (r2.1, (r2.2, true)) := Eq.trans (inf_call_eq (H := H) 251 (wide, (a, b))) (by kernel_rfl)
theorem impl_shift_eq (wide : Int) (a : Int) (by_ : Int) (left_ : Bool) : impl_shift wide a by_ left_ =
 bif decide (by_ ≥ (IntKind.u64.wrap wide)) then
 some 0
else 
 bif left_ then
 bif decide (by_ < 0) then
 none
else 
(impl_mask wide).bind fun r =>
 some (bAnd .u64 (bShl .u64 a by_) r)
else 
 bif decide (by_ < 0) then
 none
else 
 some (bShr .u64 a by_) := Eq.trans (inf_call_eq (H := H) 252 (wide, (a, (by_, left_)))) (by kernel_rfl)
theorem impl_truth_eq (holds : Bool) : impl_truth holds =
 bif holds then
 some 1
else 
 some 0 := Eq.trans (inf_call_eq (H := H) 253 holds) (by kernel_rfl)
theorem impl_signed_eq (wide : Int) (a : Int) : impl_signed wide a =
 bif decide ((IntKind.i64.wrap (64 - wide)) < 0) then
 none
else 
 bif decide ((IntKind.i64.wrap (64 - wide)) < 0) then
 none
else 
 some (bShr .i64 (IntKind.i64.wrap (bShl .u64 a (IntKind.i64.wrap (64 - wide)))) (IntKind.i64.wrap (64 - wide))) := Eq.trans (inf_call_eq (H := H) 254 (wide, a)) (by kernel_rfl)
theorem impl_apply_eq (wide : Int) (op : Int) (a : Int) (b : Int) : impl_apply wide op a b =
 bif (op == 3) then
(impl_mask wide).bind fun r =>
 some (bAnd .u64 (IntKind.u64.wrap (a + b)) r)
else 
 bif (op == 4) then
(impl_mask wide).bind fun r1 =>
 some (bAnd .u64 (IntKind.u64.wrap (a - b)) r1)
else 
 bif (op == 5) then
(impl_mask wide).bind fun r2 =>
 some (bAnd .u64 (IntKind.u64.wrap (a * b)) r2)
else 
 bif (op == 6) then
(impl_DivWord wide a b).bind fun r3 =>
(impl_mask wide).bind fun r4 =>
 some (bAnd .u64 r3.1 r4)
else 
 bif (op == 7) then
(impl_DivWord wide a b).bind fun r5 =>
(impl_mask wide).bind fun r6 =>
 some (bAnd .u64 r5.2.1 r6)
else 
 bif (op == 8) then
 bif (op == 8) then
(impl_mask wide).bind fun r7 =>
 some (bAnd .u64 (bAnd .u64 a b) r7)
else 
 bif (op == 9) then
 bif (op == 9) then
(impl_mask wide).bind fun r8 =>
 some (bAnd .u64 (bOr .u64 a b) r8)
else 
 bif (op == 10) then
(impl_mask wide).bind fun r9 =>
 some (bAnd .u64 (bXor .u64 a b) r9)
else 
 bif (op == 11) then
 bif (op == 11) then
(impl_shift wide a b (op == 11)).bind fun r10 =>
(impl_mask wide).bind fun r11 =>
 some (bAnd .u64 r10 r11)
else 
 bif (op == 14) then
(impl_truth (a == b)).bind fun r12 =>
(impl_mask wide).bind fun r13 =>
 some (bAnd .u64 r12 r13)
else 
 bif (op == 15) then
(impl_truth (decide (a < b))).bind fun r14 =>
(impl_mask wide).bind fun r15 =>
 some (bAnd .u64 r14 r15)
else 
 bif (op == 16) then
(impl_signed wide a).bind fun r16 =>
(impl_signed wide b).bind fun r17 =>
(impl_truth (decide (r16 < r17))).bind fun r18 =>
(impl_mask wide).bind fun r19 =>
 some (bAnd .u64 r18 r19)
else 
(impl_mask wide).bind fun r20 =>
 some (bAnd .u64 0 r20)
else 
 bif (op == 12) then
(impl_shift wide a b (op == 11)).bind fun r21 =>
(impl_mask wide).bind fun r22 =>
 some (bAnd .u64 r21 r22)
else 
 bif (op == 14) then
(impl_truth (a == b)).bind fun r23 =>
(impl_mask wide).bind fun r24 =>
 some (bAnd .u64 r23 r24)
else 
 bif (op == 15) then
(impl_truth (decide (a < b))).bind fun r25 =>
(impl_mask wide).bind fun r26 =>
 some (bAnd .u64 r25 r26)
else 
 bif (op == 16) then
(impl_signed wide a).bind fun r27 =>
(impl_signed wide b).bind fun r28 =>
(impl_truth (decide (r27 < r28))).bind fun r29 =>
(impl_mask wide).bind fun r30 =>
 some (bAnd .u64 r29 r30)
else 
(impl_mask wide).bind fun r31 =>
 some (bAnd .u64 0 r31)
else 
 bif (op == 18) then
(impl_mask wide).bind fun r32 =>
 some (bAnd .u64 (bOr .u64 a b) r32)
else 
 bif (op == 10) then
(impl_mask wide).bind fun r33 =>
 some (bAnd .u64 (bXor .u64 a b) r33)
else 
 bif (op == 11) then
 bif (op == 11) then
(impl_shift wide a b (op == 11)).bind fun r34 =>
(impl_mask wide).bind fun r35 =>
 some (bAnd .u64 r34 r35)
else 
 bif (op == 14) then
(impl_truth (a == b)).bind fun r36 =>
(impl_mask wide).bind fun r37 =>
 some (bAnd .u64 r36 r37)
else 
 bif (op == 15) then
(impl_truth (decide (a < b))).bind fun r38 =>
(impl_mask wide).bind fun r39 =>
 some (bAnd .u64 r38 r39)
else 
 bif (op == 16) then
(impl_signed wide a).bind fun r40 =>
(impl_signed wide b).bind fun r41 =>
(impl_truth (decide (r40 < r41))).bind fun r42 =>
(impl_mask wide).bind fun r43 =>
 some (bAnd .u64 r42 r43)
else 
(impl_mask wide).bind fun r44 =>
 some (bAnd .u64 0 r44)
else 
 bif (op == 12) then
(impl_shift wide a b (op == 11)).bind fun r45 =>
(impl_mask wide).bind fun r46 =>
 some (bAnd .u64 r45 r46)
else 
 bif (op == 14) then
(impl_truth (a == b)).bind fun r47 =>
(impl_mask wide).bind fun r48 =>
 some (bAnd .u64 r47 r48)
else 
 bif (op == 15) then
(impl_truth (decide (a < b))).bind fun r49 =>
(impl_mask wide).bind fun r50 =>
 some (bAnd .u64 r49 r50)
else 
 bif (op == 16) then
(impl_signed wide a).bind fun r51 =>
(impl_signed wide b).bind fun r52 =>
(impl_truth (decide (r51 < r52))).bind fun r53 =>
(impl_mask wide).bind fun r54 =>
 some (bAnd .u64 r53 r54)
else 
(impl_mask wide).bind fun r55 =>
 some (bAnd .u64 0 r55)
else 
 bif (op == 17) then
(impl_mask wide).bind fun r56 =>
 some (bAnd .u64 (bAnd .u64 a b) r56)
else 
 bif (op == 9) then
 bif (op == 9) then
(impl_mask wide).bind fun r57 =>
 some (bAnd .u64 (bOr .u64 a b) r57)
else 
 bif (op == 10) then
(impl_mask wide).bind fun r58 =>
 some (bAnd .u64 (bXor .u64 a b) r58)
else 
 bif (op == 11) then
 bif (op == 11) then
(impl_shift wide a b (op == 11)).bind fun r59 =>
(impl_mask wide).bind fun r60 =>
 some (bAnd .u64 r59 r60)
else 
 bif (op == 14) then
(impl_truth (a == b)).bind fun r61 =>
(impl_mask wide).bind fun r62 =>
 some (bAnd .u64 r61 r62)
else 
 bif (op == 15) then
(impl_truth (decide (a < b))).bind fun r63 =>
(impl_mask wide).bind fun r64 =>
 some (bAnd .u64 r63 r64)
else 
 bif (op == 16) then
(impl_signed wide a).bind fun r65 =>
(impl_signed wide b).bind fun r66 =>
(impl_truth (decide (r65 < r66))).bind fun r67 =>
(impl_mask wide).bind fun r68 =>
 some (bAnd .u64 r67 r68)
else 
(impl_mask wide).bind fun r69 =>
 some (bAnd .u64 0 r69)
else 
 bif (op == 12) then
(impl_shift wide a b (op == 11)).bind fun r70 =>
(impl_mask wide).bind fun r71 =>
 some (bAnd .u64 r70 r71)
else 
 bif (op == 14) then
(impl_truth (a == b)).bind fun r72 =>
(impl_mask wide).bind fun r73 =>
 some (bAnd .u64 r72 r73)
else 
 bif (op == 15) then
(impl_truth (decide (a < b))).bind fun r74 =>
(impl_mask wide).bind fun r75 =>
 some (bAnd .u64 r74 r75)
else 
 bif (op == 16) then
(impl_signed wide a).bind fun r76 =>
(impl_signed wide b).bind fun r77 =>
(impl_truth (decide (r76 < r77))).bind fun r78 =>
(impl_mask wide).bind fun r79 =>
 some (bAnd .u64 r78 r79)
else 
(impl_mask wide).bind fun r80 =>
 some (bAnd .u64 0 r80)
else 
 bif (op == 18) then
(impl_mask wide).bind fun r81 =>
 some (bAnd .u64 (bOr .u64 a b) r81)
else 
 bif (op == 10) then
(impl_mask wide).bind fun r82 =>
 some (bAnd .u64 (bXor .u64 a b) r82)
else 
 bif (op == 11) then
 bif (op == 11) then
(impl_shift wide a b (op == 11)).bind fun r83 =>
(impl_mask wide).bind fun r84 =>
 some (bAnd .u64 r83 r84)
else 
 bif (op == 14) then
(impl_truth (a == b)).bind fun r85 =>
(impl_mask wide).bind fun r86 =>
 some (bAnd .u64 r85 r86)
else 
 bif (op == 15) then
(impl_truth (decide (a < b))).bind fun r87 =>
(impl_mask wide).bind fun r88 =>
 some (bAnd .u64 r87 r88)
else 
 bif (op == 16) then
(impl_signed wide a).bind fun r89 =>
(impl_signed wide b).bind fun r90 =>
(impl_truth (decide (r89 < r90))).bind fun r91 =>
(impl_mask wide).bind fun r92 =>
 some (bAnd .u64 r91 r92)
else 
(impl_mask wide).bind fun r93 =>
 some (bAnd .u64 0 r93)
else 
 bif (op == 12) then
(impl_shift wide a b (op == 11)).bind fun r94 =>
(impl_mask wide).bind fun r95 =>
 some (bAnd .u64 r94 r95)
else 
 bif (op == 14) then
(impl_truth (a == b)).bind fun r96 =>
(impl_mask wide).bind fun r97 =>
 some (bAnd .u64 r96 r97)
else 
 bif (op == 15) then
(impl_truth (decide (a < b))).bind fun r98 =>
(impl_mask wide).bind fun r99 =>
 some (bAnd .u64 r98 r99)
else 
 bif (op == 16) then
(impl_signed wide a).bind fun r100 =>
(impl_signed wide b).bind fun r101 =>
(impl_truth (decide (r100 < r101))).bind fun r102 =>
(impl_mask wide).bind fun r103 =>
 some (bAnd .u64 r102 r103)
else 
(impl_mask wide).bind fun r104 =>
 some (bAnd .u64 0 r104) := Eq.trans (inf_call_eq (H := H) 198 (wide, (op, (a, b)))) (by kernel_rfl)
theorem impl_valueOf_L0_eq (wide : Int) (state : Bool × List Int) (stack : Bool × List Int) (t12 : Bool × List DNode) (t13 : Int) (t14 : Int) : impl_valueOf_L0 wide state stack t12 t13 t14 =
 bif decide (t14 < t13) then
 bif decide (0 ≤ t14) then
 bif decide (t14 < (t12.2.length : Int)) then
 bif (((t12.2.getD (Int.toNat t14) (0, 0)).1) == 1) then
 bif (((t12.2.getD (Int.toNat t14) (0, 0)).1) == 1) then
 bif decide (stack.2.length + [(t12.2.getD (Int.toNat t14) (0, 0)).2].length ≤ lim) then
(impl_valueOf_L0 wide state ((stack.1 && false), (stack.2 ++ [(t12.2.getD (Int.toNat t14) (0, 0)).2])) t12 t13 (IntKind.i64.wrap (t14 + 1))).bind fun r => some r
else none
else 
 bif (((t12.2.getD (Int.toNat t14) (0, 0)).1) == 2) then
 bif decide (0 ≤ ((t12.2.getD (Int.toNat t14) (0, 0)).2)) then
 bif decide (((t12.2.getD (Int.toNat t14) (0, 0)).2) < (state.2.length : Int)) then
 bif decide (stack.2.length + [(state.2.getD (Int.toNat ((t12.2.getD (Int.toNat t14) (0, 0)).2)) 0)].length ≤ lim) then
(impl_valueOf_L0 wide state ((stack.1 && false), (stack.2 ++ [(state.2.getD (Int.toNat ((t12.2.getD (Int.toNat t14) (0, 0)).2)) 0)])) t12 t13 (IntKind.i64.wrap (t14 + 1))).bind fun r => some r
else none
else none
else none
else 
 bif (((t12.2.getD (Int.toNat t14) (0, 0)).1) == 13) then
 bif decide (0 ≤ (IntKind.i64.wrap ((stack.2.length : Int) - 1))) then
 bif decide ((IntKind.i64.wrap ((stack.2.length : Int) - 1)) < (stack.2.length : Int)) then
(impl_mask wide).bind fun r =>
 bif decide (0 ≤ (IntKind.i64.wrap ((stack.2.length : Int) - 1))) then
 bif decide ((IntKind.i64.wrap ((stack.2.length : Int) - 1)) < (stack.2.length : Int)) then
(impl_valueOf_L0 wide state (stack.1, (stack.2.set (Int.toNat (IntKind.i64.wrap ((stack.2.length : Int) - 1))) (bAnd .u64 (bXor .u64 18446744073709551615 (stack.2.getD (Int.toNat (IntKind.i64.wrap ((stack.2.length : Int) - 1))) 0)) r))) t12 t13 (IntKind.i64.wrap (t14 + 1))).bind fun r => some r
else none
else none
else none
else none
else 
 bif (((t12.2.getD (Int.toNat t14) (0, 0)).1) == 19) then
 bif decide (0 ≤ (IntKind.i64.wrap ((stack.2.length : Int) - 1))) then
 bif decide ((IntKind.i64.wrap ((stack.2.length : Int) - 1)) < (stack.2.length : Int)) then
 bif decide (0 ≤ (IntKind.i64.wrap ((stack.2.length : Int) - 1))) then
 bif decide ((IntKind.i64.wrap ((stack.2.length : Int) - 1)) < (stack.2.length : Int)) then
(impl_valueOf_L0 wide state (stack.1, (stack.2.set (Int.toNat (IntKind.i64.wrap ((stack.2.length : Int) - 1))) (IntKind.u64.wrap (1 - (stack.2.getD (Int.toNat (IntKind.i64.wrap ((stack.2.length : Int) - 1))) 0))))) t12 t13 (IntKind.i64.wrap (t14 + 1))).bind fun r => some r
else none
else none
else none
else none
else 
 bif decide (0 ≤ (IntKind.i64.wrap ((IntKind.i64.wrap ((stack.2.length : Int) - 1)) - 1))) then
 bif decide ((IntKind.i64.wrap ((IntKind.i64.wrap ((stack.2.length : Int) - 1)) - 1)) ≤ (stack.2.length : Int)) then
 bif decide (0 ≤ (IntKind.i64.wrap ((IntKind.i64.wrap ((stack.2.length : Int) - 1)) - 1))) then
 bif decide ((IntKind.i64.wrap ((IntKind.i64.wrap ((stack.2.length : Int) - 1)) - 1)) < (stack.2.length : Int)) then
 bif decide (0 ≤ (IntKind.i64.wrap ((stack.2.length : Int) - 1))) then
 bif decide ((IntKind.i64.wrap ((stack.2.length : Int) - 1)) < (stack.2.length : Int)) then
(impl_apply wide ((t12.2.getD (Int.toNat t14) (0, 0)).1) (stack.2.getD (Int.toNat (IntKind.i64.wrap ((IntKind.i64.wrap ((stack.2.length : Int) - 1)) - 1))) 0) (stack.2.getD (Int.toNat (IntKind.i64.wrap ((stack.2.length : Int) - 1))) 0)).bind fun r1 =>
 bif decide (((stack.2.take (Int.toNat (IntKind.i64.wrap ((IntKind.i64.wrap ((stack.2.length : Int) - 1)) - 1)))).drop 0).length + [r1].length ≤ lim) then
(impl_valueOf_L0 wide state ((stack.1 && false), (((stack.2.take (Int.toNat (IntKind.i64.wrap ((IntKind.i64.wrap ((stack.2.length : Int) - 1)) - 1)))).drop 0) ++ [r1])) t12 t13 (IntKind.i64.wrap (t14 + 1))).bind fun r => some r
else none
else none
else none
else none
else none
else none
else none
else 
 bif (((t12.2.getD (Int.toNat t14) (0, 0)).1) == 20) then
 bif decide (stack.2.length + [(t12.2.getD (Int.toNat t14) (0, 0)).2].length ≤ lim) then
(impl_valueOf_L0 wide state ((stack.1 && false), (stack.2 ++ [(t12.2.getD (Int.toNat t14) (0, 0)).2])) t12 t13 (IntKind.i64.wrap (t14 + 1))).bind fun r => some r
else none
else 
 bif (((t12.2.getD (Int.toNat t14) (0, 0)).1) == 2) then
 bif decide (0 ≤ ((t12.2.getD (Int.toNat t14) (0, 0)).2)) then
 bif decide (((t12.2.getD (Int.toNat t14) (0, 0)).2) < (state.2.length : Int)) then
 bif decide (stack.2.length + [(state.2.getD (Int.toNat ((t12.2.getD (Int.toNat t14) (0, 0)).2)) 0)].length ≤ lim) then
(impl_valueOf_L0 wide state ((stack.1 && false), (stack.2 ++ [(state.2.getD (Int.toNat ((t12.2.getD (Int.toNat t14) (0, 0)).2)) 0)])) t12 t13 (IntKind.i64.wrap (t14 + 1))).bind fun r => some r
else none
else none
else none
else 
 bif (((t12.2.getD (Int.toNat t14) (0, 0)).1) == 13) then
 bif decide (0 ≤ (IntKind.i64.wrap ((stack.2.length : Int) - 1))) then
 bif decide ((IntKind.i64.wrap ((stack.2.length : Int) - 1)) < (stack.2.length : Int)) then
(impl_mask wide).bind fun r2 =>
 bif decide (0 ≤ (IntKind.i64.wrap ((stack.2.length : Int) - 1))) then
 bif decide ((IntKind.i64.wrap ((stack.2.length : Int) - 1)) < (stack.2.length : Int)) then
(impl_valueOf_L0 wide state (stack.1, (stack.2.set (Int.toNat (IntKind.i64.wrap ((stack.2.length : Int) - 1))) (bAnd .u64 (bXor .u64 18446744073709551615 (stack.2.getD (Int.toNat (IntKind.i64.wrap ((stack.2.length : Int) - 1))) 0)) r2))) t12 t13 (IntKind.i64.wrap (t14 + 1))).bind fun r => some r
else none
else none
else none
else none
else 
 bif (((t12.2.getD (Int.toNat t14) (0, 0)).1) == 19) then
 bif decide (0 ≤ (IntKind.i64.wrap ((stack.2.length : Int) - 1))) then
 bif decide ((IntKind.i64.wrap ((stack.2.length : Int) - 1)) < (stack.2.length : Int)) then
 bif decide (0 ≤ (IntKind.i64.wrap ((stack.2.length : Int) - 1))) then
 bif decide ((IntKind.i64.wrap ((stack.2.length : Int) - 1)) < (stack.2.length : Int)) then
(impl_valueOf_L0 wide state (stack.1, (stack.2.set (Int.toNat (IntKind.i64.wrap ((stack.2.length : Int) - 1))) (IntKind.u64.wrap (1 - (stack.2.getD (Int.toNat (IntKind.i64.wrap ((stack.2.length : Int) - 1))) 0))))) t12 t13 (IntKind.i64.wrap (t14 + 1))).bind fun r => some r
else none
else none
else none
else none
else 
 bif decide (0 ≤ (IntKind.i64.wrap ((IntKind.i64.wrap ((stack.2.length : Int) - 1)) - 1))) then
 bif decide ((IntKind.i64.wrap ((IntKind.i64.wrap ((stack.2.length : Int) - 1)) - 1)) ≤ (stack.2.length : Int)) then
 bif decide (0 ≤ (IntKind.i64.wrap ((IntKind.i64.wrap ((stack.2.length : Int) - 1)) - 1))) then
 bif decide ((IntKind.i64.wrap ((IntKind.i64.wrap ((stack.2.length : Int) - 1)) - 1)) < (stack.2.length : Int)) then
 bif decide (0 ≤ (IntKind.i64.wrap ((stack.2.length : Int) - 1))) then
 bif decide ((IntKind.i64.wrap ((stack.2.length : Int) - 1)) < (stack.2.length : Int)) then
(impl_apply wide ((t12.2.getD (Int.toNat t14) (0, 0)).1) (stack.2.getD (Int.toNat (IntKind.i64.wrap ((IntKind.i64.wrap ((stack.2.length : Int) - 1)) - 1))) 0) (stack.2.getD (Int.toNat (IntKind.i64.wrap ((stack.2.length : Int) - 1))) 0)).bind fun r3 =>
 bif decide (((stack.2.take (Int.toNat (IntKind.i64.wrap ((IntKind.i64.wrap ((stack.2.length : Int) - 1)) - 1)))).drop 0).length + [r3].length ≤ lim) then
(impl_valueOf_L0 wide state ((stack.1 && false), (((stack.2.take (Int.toNat (IntKind.i64.wrap ((IntKind.i64.wrap ((stack.2.length : Int) - 1)) - 1)))).drop 0) ++ [r3])) t12 t13 (IntKind.i64.wrap (t14 + 1))).bind fun r => some r
else none
else none
else none
else none
else none
else none
else none
else none
else none
else 
 some (stack.1, stack.2) := Eq.trans (inf_loop_eq (H := H) 148 0 (loopCode Tryz.f148 0) (wide, (state, (stack, (t12, (t13, t14))))) key_impl_valueOf) (by kernel_rfl)
theorem impl_valueOf_eq (wide : Int) (t : Bool × List DNode) (state : Bool × List Int) : impl_valueOf wide t state =
(impl_valueOf_L0 wide state (false, []) t (t.2.length : Int) 0).bind fun r =>
 bif decide (0 < (r.2.length : Int)) then
 some (r.2.getD 0 0)
else none := Eq.trans (inf_call_eq (H := H) 148 (wide, (t, state))) (by kernel_rfl)
theorem impl_Program_holds_eq (p : DProgram) (t : Bool × List DNode) (s : Bool × List Int) : impl_Program_holds p t s =
(impl_valueOf p.1 t s).bind fun r =>
 some (r == 1) := Eq.trans (inf_call_eq (H := H) 98 (p, (t, s))) (by kernel_rfl)
theorem impl_Question_letterOf_L0_eq (q : DQuestion) (s : Bool × List Int) (letter : Int) (t14 : Bool × List (Bool × List DNode)) (t15 : Int) (t16 : Int) : impl_Question_letterOf_L0 q s letter t14 t15 t16 =
 bif decide (t16 < t15) then
 bif decide (0 ≤ t16) then
 bif decide (t16 < (t14.2.length : Int)) then
(impl_Program_holds q.1 (t14.2.getD (Int.toNat t16) (true, [])) s).bind fun r =>
 bif r then
 bif decide (t16 < 0) then
 none
else 
(impl_Question_letterOf_L0 q s (bOr .i64 letter (bShl .i64 1 t16)) t14 t15 (IntKind.i64.wrap (t16 + 1))).bind fun r => some r
else 
(impl_Question_letterOf_L0 q s letter t14 t15 (IntKind.i64.wrap (t16 + 1))).bind fun r => some r
else none
else none
else 
 some letter := Eq.trans (inf_loop_eq (H := H) 139 0 (loopCode Tryz.f139 0) (q, (s, (letter, (t14, (t15, t16))))) key_impl_Question_letterOf) (by kernel_rfl)
theorem impl_Question_letterOf_eq (q : DQuestion) (no : Int) : impl_Question_letterOf q no =
(impl_Program_stateOf q.1 no).bind fun r =>
(impl_Question_letterOf_L0 q (r.1, r.2) 0 q.2.1 (q.2.1.2.length : Int) 0).bind fun r1 =>
 some r1 := Eq.trans (inf_call_eq (H := H) 139 (q, no)) (by kernel_rfl)
theorem impl_isFit_L0_eq (q : DQuestion) (letters : Bool × List Int) (t14 : Bool × List Int) (t15 : Int) (t16 : Int) : impl_isFit_L0 q letters t14 t15 t16 =
 bif decide (t16 < t15) then
 bif decide (0 ≤ t16) then
 bif decide (t16 < (t14.2.length : Int)) then
(impl_Question_letterOf q t16).bind fun r =>
 bif decide (0 ≤ (t14.2.getD (Int.toNat t16) 0)) then
 bif decide ((t14.2.getD (Int.toNat t16) 0) < (letters.2.length : Int)) then
 bif decide ((letters.2.getD (Int.toNat (t14.2.getD (Int.toNat t16) 0)) 0) ≥ 0) then
 bif decide (0 ≤ (t14.2.getD (Int.toNat t16) 0)) then
 bif decide ((t14.2.getD (Int.toNat t16) 0) < (letters.2.length : Int)) then
 bif ((letters.2.getD (Int.toNat (t14.2.getD (Int.toNat t16) 0)) 0) != r) then
 some (.inl ((letters.1, letters.2), false))
else 
 bif decide (0 ≤ (t14.2.getD (Int.toNat t16) 0)) then
 bif decide ((t14.2.getD (Int.toNat t16) 0) < (letters.2.length : Int)) then
(impl_isFit_L0 q (letters.1, (letters.2.set (Int.toNat (t14.2.getD (Int.toNat t16) 0)) r)) t14 t15 (IntKind.i64.wrap (t16 + 1))).bind fun r => some r
else none
else none
else none
else none
else 
 bif decide (0 ≤ (t14.2.getD (Int.toNat t16) 0)) then
 bif decide ((t14.2.getD (Int.toNat t16) 0) < (letters.2.length : Int)) then
(impl_isFit_L0 q (letters.1, (letters.2.set (Int.toNat (t14.2.getD (Int.toNat t16) 0)) r)) t14 t15 (IntKind.i64.wrap (t16 + 1))).bind fun r => some r
else none
else none
else none
else none
else none
else none
else 
 some (.inr (letters.1, letters.2)) := Eq.trans (inf_loop_eq (H := H) 83 0 (loopCode Tryz.f83 0) (q, (letters, (t14, (t15, t16)))) key_impl_isFit) (by kernel_rfl)
theorem impl_isFit_eq (q : DQuestion) (v : DSight) : impl_isFit q v =
(impl_Sight_classes v).bind fun r =>
(slices_Repeat_int (false, [(-1)]) r).bind fun r1 =>
(impl_isFit_L0 q (r1.1, r1.2) v (v.2.length : Int) 0).bind fun r2 =>
 match r2 with
| .inl y =>
 some y.2
| .inr z =>
 some true := Eq.trans (inf_call_eq (H := H) 83 (q, v)) (by kernel_rfl)
theorem impl_isClass_eq (p : DProgram) (v : DSight) (class_ : Int) : impl_isClass p v class_ =
(impl_GoodSight p v).bind fun r =>
 bif r then
 bif decide (class_ ≥ 0) then
(impl_Sight_classes v).bind fun r1 =>
 some (decide (class_ < r1))
else 
 some false
else 
 some false := Eq.trans (inf_call_eq (H := H) 89 (p, (v, class_))) (by kernel_rfl)
theorem slices_Index_int_L0_eq (s : Bool × List Int) (v : Int) (t7 : Int) (t8 : Int) : slices_Index_int_L0 s v t7 t8 =
 bif decide (t8 < t7) then
 bif decide (0 ≤ t8) then
 bif decide (t8 < (s.2.length : Int)) then
 bif (v == (s.2.getD (Int.toNat t8) 0)) then
 some (.inl t8)
else 
(slices_Index_int_L0 s v t7 (IntKind.i64.wrap (t8 + 1))).bind fun r => some r
else none
else none
else 
 some (.inr ()) := Eq.trans (inf_loop_eq (H := H) 130 0 (loopCode Tryz.f130 0) (s, (v, (t7, t8))) key_slices_Index_int) (by kernel_rfl)
theorem slices_Index_int_eq (s : Bool × List Int) (v : Int) : slices_Index_int s v =
(slices_Index_int_L0 s v (s.2.length : Int) 0).bind fun r =>
 match r with
| .inl y =>
 some y
| .inr z =>
 some (-1) := Eq.trans (inf_call_eq (H := H) 130 (s, v)) (by kernel_rfl)
theorem impl_classLetter_eq (q : DQuestion) (v : DSight) (class_ : Int) : impl_classLetter q v class_ =
(slices_Index_int v class_).bind fun r =>
(impl_Question_letterOf q r).bind fun r1 =>
 some r1 := Eq.trans (inf_call_eq (H := H) 90 (q, (v, class_))) (by kernel_rfl)
theorem impl_ClassLetter_eq (q : DQuestion) (v : DSight) (class_ : Int) : impl_ClassLetter q v class_ =
(impl_isSightOf q v).bind fun r =>
 bif !r then
 some (0, false)
else 
(impl_isFit q v).bind fun r1 =>
 bif !r1 then
 some (0, false)
else 
(impl_isClass q.1 v class_).bind fun r2 =>
 bif !r2 then
 some (0, false)
else 
(impl_classLetter q v class_).bind fun r3 =>
 some (r3, true) := Eq.trans (inf_call_eq (H := H) 38 (q, (v, class_))) (by kernel_rfl)
theorem laws_eqNode_eq (a : DNode) (b : DNode) : laws_eqNode a b =
 bif (a.1 != b.1) then
 some false
else 
 bif (a.2 != b.2) then
 some false
else 
 some true := Eq.trans (inf_call_eq (H := H) 73 (a, b)) (by kernel_rfl)
theorem laws_eqNodeS_L0_eq (a : Bool × List DNode) (b : Bool × List DNode) (i : Int) : laws_eqNodeS_L0 a b i =
 bif decide (i < (a.2.length : Int)) then
 bif decide (0 ≤ i) then
 bif decide (i < (a.2.length : Int)) then
 bif decide (0 ≤ i) then
 bif decide (i < (b.2.length : Int)) then
(laws_eqNode (a.2.getD (Int.toNat i) (0, 0)) (b.2.getD (Int.toNat i) (0, 0))).bind fun r =>
 bif !r then
 some (.inl false)
else 
(laws_eqNodeS_L0 a b (IntKind.i64.wrap (i + 1))).bind fun r => some r
else none
else none
else none
else none
else 
 some (.inr ()) := Eq.trans (inf_loop_eq (H := H) 28 0 (loopCode Tryz.f28 0) (a, (b, i)) key_laws_eqNodeS) (by kernel_rfl)
theorem laws_eqNodeS_eq (a : Bool × List DNode) (b : Bool × List DNode) : laws_eqNodeS a b =
 bif ((a.2.length : Int) != (b.2.length : Int)) then
 some false
else 
(laws_eqNodeS_L0 a b 0).bind fun r =>
 match r with
| .inl y =>
 some y
| .inr z =>
 some true := Eq.trans (inf_call_eq (H := H) 28 (a, b)) (by kernel_rfl)
theorem laws_eqChange_eq (a : DChange) (b : DChange) : laws_eqChange a b =
 bif (a.1 != b.1) then
 some false
else 
(laws_eqNodeS a.2 b.2).bind fun r =>
 bif !r then
 some false
else 
 some true := Eq.trans (inf_call_eq (H := H) 237 (a, b)) (by kernel_rfl)
theorem laws_eqChangeS_L0_eq (a : Bool × List DChange) (b : Bool × List DChange) (i : Int) : laws_eqChangeS_L0 a b i =
 bif decide (i < (a.2.length : Int)) then
 bif decide (0 ≤ i) then
 bif decide (i < (a.2.length : Int)) then
 bif decide (0 ≤ i) then
 bif decide (i < (b.2.length : Int)) then
(laws_eqChange (a.2.getD (Int.toNat i) (0, (true, []))) (b.2.getD (Int.toNat i) (0, (true, [])))).bind fun r =>
 bif !r then
 some (.inl false)
else 
(laws_eqChangeS_L0 a b (IntKind.i64.wrap (i + 1))).bind fun r => some r
else none
else none
else none
else none
else 
 some (.inr ()) := Eq.trans (inf_loop_eq (H := H) 176 0 (loopCode Tryz.f176 0) (a, (b, i)) key_laws_eqChangeS) (by kernel_rfl)
theorem laws_eqChangeS_eq (a : Bool × List DChange) (b : Bool × List DChange) : laws_eqChangeS a b =
 bif ((a.2.length : Int) != (b.2.length : Int)) then
 some false
else 
(laws_eqChangeS_L0 a b 0).bind fun r =>
 match r with
| .inl y =>
 some y
| .inr z =>
 some true := Eq.trans (inf_call_eq (H := H) 176 (a, b)) (by kernel_rfl)
theorem laws_eqCommand_eq (a : DCommand) (b : DCommand) : laws_eqCommand a b =
(laws_eqNodeS a.1 b.1).bind fun r =>
 bif !r then
 some false
else 
(laws_eqChangeS a.2 b.2).bind fun r1 =>
 bif !r1 then
 some false
else 
 some true := Eq.trans (inf_call_eq (H := H) 121 (a, b)) (by kernel_rfl)
theorem laws_eqCommandS_L0_eq (a : Bool × List DCommand) (b : Bool × List DCommand) (i : Int) : laws_eqCommandS_L0 a b i =
 bif decide (i < (a.2.length : Int)) then
 bif decide (0 ≤ i) then
 bif decide (i < (a.2.length : Int)) then
 bif decide (0 ≤ i) then
 bif decide (i < (b.2.length : Int)) then
(laws_eqCommand (a.2.getD (Int.toNat i) ((true, []), (true, []))) (b.2.getD (Int.toNat i) ((true, []), (true, [])))).bind fun r =>
 bif !r then
 some (.inl false)
else 
(laws_eqCommandS_L0 a b (IntKind.i64.wrap (i + 1))).bind fun r => some r
else none
else none
else none
else none
else 
 some (.inr ()) := Eq.trans (inf_loop_eq (H := H) 60 0 (loopCode Tryz.f60 0) (a, (b, i)) key_laws_eqCommandS) (by kernel_rfl)
theorem laws_eqCommandS_eq (a : Bool × List DCommand) (b : Bool × List DCommand) : laws_eqCommandS a b =
 bif ((a.2.length : Int) != (b.2.length : Int)) then
 some false
else 
(laws_eqCommandS_L0 a b 0).bind fun r =>
 match r with
| .inl y =>
 some y
| .inr z =>
 some true := Eq.trans (inf_call_eq (H := H) 60 (a, b)) (by kernel_rfl)
theorem laws_eqProgram_eq (a : DProgram) (b : DProgram) : laws_eqProgram a b =
 bif (a.1 != b.1) then
 some false
else 
 bif (a.2.1 != b.2.1) then
 some false
else 
(laws_eqNodeS a.2.2.1 b.2.2.1).bind fun r =>
 bif !r then
 some false
else 
(laws_eqCommandS a.2.2.2 b.2.2.2).bind fun r1 =>
 bif !r1 then
 some false
else 
 some true := Eq.trans (inf_call_eq (H := H) 18 (a, b)) (by kernel_rfl)
theorem laws_eqNodeSS_L0_eq (a : Bool × List (Bool × List DNode)) (b : Bool × List (Bool × List DNode)) (i : Int) : laws_eqNodeSS_L0 a b i =
 bif decide (i < (a.2.length : Int)) then
 bif decide (0 ≤ i) then
 bif decide (i < (a.2.length : Int)) then
 bif decide (0 ≤ i) then
 bif decide (i < (b.2.length : Int)) then
(laws_eqNodeS (a.2.getD (Int.toNat i) (true, [])) (b.2.getD (Int.toNat i) (true, []))).bind fun r =>
 bif !r then
 some (.inl false)
else 
(laws_eqNodeSS_L0 a b (IntKind.i64.wrap (i + 1))).bind fun r => some r
else none
else none
else none
else none
else 
 some (.inr ()) := Eq.trans (inf_loop_eq (H := H) 84 0 (loopCode Tryz.f84 0) (a, (b, i)) key_laws_eqNodeSS) (by kernel_rfl)
theorem laws_eqNodeSS_eq (a : Bool × List (Bool × List DNode)) (b : Bool × List (Bool × List DNode)) : laws_eqNodeSS a b =
 bif ((a.2.length : Int) != (b.2.length : Int)) then
 some false
else 
(laws_eqNodeSS_L0 a b 0).bind fun r =>
 match r with
| .inl y =>
 some y
| .inr z =>
 some true := Eq.trans (inf_call_eq (H := H) 84 (a, b)) (by kernel_rfl)
theorem laws_eqSaid_eq (a : DSaid) (b : DSaid) : laws_eqSaid a b =
 bif (a.1 != b.1) then
 some false
else 
 bif (a.2 != b.2) then
 some false
else 
 some true := Eq.trans (inf_call_eq (H := H) 140 (a, b)) (by kernel_rfl)
theorem laws_eqSaidS_L0_eq (a : Bool × List DSaid) (b : Bool × List DSaid) (i : Int) : laws_eqSaidS_L0 a b i =
 bif decide (i < (a.2.length : Int)) then
 bif decide (0 ≤ i) then
 bif decide (i < (a.2.length : Int)) then
 bif decide (0 ≤ i) then
 bif decide (i < (b.2.length : Int)) then
(laws_eqSaid (a.2.getD (Int.toNat i) (0, 0)) (b.2.getD (Int.toNat i) (0, 0))).bind fun r =>
 bif !r then
 some (.inl false)
else 
(laws_eqSaidS_L0 a b (IntKind.i64.wrap (i + 1))).bind fun r => some r
else none
else none
else none
else none
else 
 some (.inr ()) := Eq.trans (inf_loop_eq (H := H) 85 0 (loopCode Tryz.f85 0) (a, (b, i)) key_laws_eqSaidS) (by kernel_rfl)
theorem laws_eqSaidS_eq (a : Bool × List DSaid) (b : Bool × List DSaid) : laws_eqSaidS a b =
 bif ((a.2.length : Int) != (b.2.length : Int)) then
 some false
else 
(laws_eqSaidS_L0 a b 0).bind fun r =>
 match r with
| .inl y =>
 some y
| .inr z =>
 some true := Eq.trans (inf_call_eq (H := H) 85 (a, b)) (by kernel_rfl)
theorem laws_eqQuestion_eq (a : DQuestion) (b : DQuestion) : laws_eqQuestion a b =
(laws_eqProgram a.1 b.1).bind fun r =>
 bif !r then
 some false
else 
(laws_eqNodeSS a.2.1 b.2.1).bind fun r1 =>
 bif !r1 then
 some false
else 
(laws_eqSaidS a.2.2 b.2.2).bind fun r2 =>
 bif !r2 then
 some false
else 
 some true := Eq.trans (inf_call_eq (H := H) 36 (a, b)) (by kernel_rfl)
theorem laws_eqIntS_L0_eq (a : Bool × List Int) (b : Bool × List Int) (i : Int) : laws_eqIntS_L0 a b i =
 bif decide (i < (a.2.length : Int)) then
 bif decide (0 ≤ i) then
 bif decide (i < (a.2.length : Int)) then
 bif decide (0 ≤ i) then
 bif decide (i < (b.2.length : Int)) then
 bif ((a.2.getD (Int.toNat i) 0) != (b.2.getD (Int.toNat i) 0)) then
 some (.inl false)
else 
(laws_eqIntS_L0 a b (IntKind.i64.wrap (i + 1))).bind fun r => some r
else none
else none
else none
else none
else 
 some (.inr ()) := Eq.trans (inf_loop_eq (H := H) 17 0 (loopCode Tryz.f17 0) (a, (b, i)) key_laws_eqIntS) (by kernel_rfl)
theorem laws_eqIntS_eq (a : Bool × List Int) (b : Bool × List Int) : laws_eqIntS a b =
 bif ((a.2.length : Int) != (b.2.length : Int)) then
 some false
else 
(laws_eqIntS_L0 a b 0).bind fun r =>
 match r with
| .inl y =>
 some y
| .inr z =>
 some true := Eq.trans (inf_call_eq (H := H) 17 (a, b)) (by kernel_rfl)
theorem laws_eqSight_eq (a : DSight) (b : DSight) : laws_eqSight a b =
(laws_eqIntS a b).bind fun r =>
 bif !r then
 some false
else 
 some true := Eq.trans (inf_call_eq (H := H) 19 (a, b)) (by kernel_rfl)
theorem laws_FnExactClassLetter_eq (aQ : DQuestion) (aV : DSight) (aClass : Int) : laws_FnExactClassLetter aQ aV aClass =
(laws_szQuestion aQ 1048576).bind fun r =>
 bif decide (r < 0) then
 some true
else 
(laws_szSight aV r).bind fun r1 =>
 bif decide (r1 < 0) then
 some true
else 
(laws_toQuestion aQ).bind fun r2 =>
(laws_toSight aV).bind fun r3 =>
(spec_ClassLetter ((r2.1, (r2.2.1, ((r2.2.2.1.1, r2.2.2.1.2), (r2.2.2.2.1.1, r2.2.2.2.1.2)))), ((r2.2.2.2.2.1.1, r2.2.2.2.2.1.2), (r2.2.2.2.2.2.1, r2.2.2.2.2.2.2))) (r3.1, r3.2) aClass).bind fun r4 =>
(laws_toQuestion aQ).bind fun r5 =>
(laws_toSight aV).bind fun r6 =>
(impl_ClassLetter ((r5.1, (r5.2.1, ((r5.2.2.1.1, r5.2.2.1.2), (r5.2.2.2.1.1, r5.2.2.2.1.2)))), ((r5.2.2.2.2.1.1, r5.2.2.2.2.1.2), (r5.2.2.2.2.2.1, r5.2.2.2.2.2.2))) (r6.1, r6.2) aClass).bind fun r7 =>
 bif (r7.1 != r4.1) then
 some false
else 
 bif !(r7.2 == r4.2) then
 some false
else 
(laws_toQuestion aQ).bind fun r8 =>
(laws_eqQuestion ((r5.1, (r5.2.1, ((r5.2.2.1.1, r5.2.2.1.2), (r5.2.2.2.1.1, r5.2.2.2.1.2)))), ((r5.2.2.2.2.1.1, r5.2.2.2.2.1.2), (r5.2.2.2.2.2.1, r5.2.2.2.2.2.2))) ((r8.1, (r8.2.1, ((r8.2.2.1.1, r8.2.2.1.2), (r8.2.2.2.1.1, r8.2.2.2.1.2)))), ((r8.2.2.2.2.1.1, r8.2.2.2.2.1.2), (r8.2.2.2.2.2.1, r8.2.2.2.2.2.2)))).bind fun r9 =>
 bif !r9 then
 some false
else 
(laws_toSight aV).bind fun r10 =>
(laws_eqSight (r6.1, r6.2) (r10.1, r10.2)).bind fun r11 =>
 bif !r11 then
 some false
else 
 some true := Eq.trans (inf_call_eq (H := H) 7 (aQ, (aV, aClass))) (by kernel_rfl)
theorem fit : Fit Tryz.prog H := fit_of (exts := extsL) (tys := tysL) (cells := cellsL) (keys := keysL) rfl rfl rfl rfl (by kernel_rfl) (by kernel_rfl) ⟨⟨Tryz.func24, by kernel_rfl, by kernel_rfl⟩, ⟨Tryz.func229, by kernel_rfl, by kernel_rfl⟩, ⟨Tryz.func169, by kernel_rfl, by kernel_rfl⟩, ⟨Tryz.func109, by kernel_rfl, by kernel_rfl⟩, ⟨Tryz.func53, by kernel_rfl, by kernel_rfl⟩, ⟨Tryz.func11, by kernel_rfl, by kernel_rfl⟩, ⟨Tryz.func76, by kernel_rfl, by kernel_rfl⟩, ⟨Tryz.func77, by kernel_rfl, by kernel_rfl⟩, ⟨Tryz.func32, by kernel_rfl, by kernel_rfl⟩, ⟨Tryz.func54, by kernel_rfl, by kernel_rfl⟩, ⟨Tryz.func12, by kernel_rfl, by kernel_rfl⟩, ⟨Tryz.func66, by kernel_rfl, by kernel_rfl⟩, ⟨Tryz.func26, by kernel_rfl, by kernel_rfl⟩, ⟨Tryz.func231, by kernel_rfl, by kernel_rfl⟩, ⟨Tryz.func173, by kernel_rfl, by kernel_rfl⟩, ⟨Tryz.func115, by kernel_rfl, by kernel_rfl⟩, ⟨Tryz.func57, by kernel_rfl, by kernel_rfl⟩, ⟨Tryz.func14, by kernel_rfl, by kernel_rfl⟩, ⟨Tryz.func80, by kernel_rfl, by kernel_rfl⟩, ⟨Tryz.func136, by kernel_rfl, by kernel_rfl⟩, ⟨Tryz.func81, by kernel_rfl, by kernel_rfl⟩, ⟨Tryz.func34, by kernel_rfl, by kernel_rfl⟩, ⟨Tryz.func40, by kernel_rfl, by kernel_rfl⟩, ⟨Tryz.func15, by kernel_rfl, by kernel_rfl⟩, ⟨Tryz.func86, by kernel_rfl, by kernel_rfl⟩, ⟨Tryz.func177, by kernel_rfl, by kernel_rfl⟩, ⟨Tryz.func178, by kernel_rfl, by kernel_rfl⟩, ⟨Tryz.func239, by kernel_rfl, by kernel_rfl⟩, ⟨Tryz.func238, by kernel_rfl, by kernel_rfl⟩, ⟨Tryz.func179, by kernel_rfl, by kernel_rfl⟩, ⟨Tryz.func123, by kernel_rfl, by kernel_rfl⟩, ⟨Tryz.func62, by kernel_rfl, by kernel_rfl⟩, ⟨Tryz.func230, by kernel_rfl, by kernel_rfl⟩, ⟨Tryz.func170, by kernel_rfl, by kernel_rfl⟩, ⟨Tryz.func110, by kernel_rfl, by kernel_rfl⟩, ⟨Tryz.func272, by kernel_rfl, by kernel_rfl⟩, ⟨Tryz.func273, by kernel_rfl, by kernel_rfl⟩, ⟨Tryz.func245, by kernel_rfl, by kernel_rfl⟩, ⟨Tryz.func172, by kernel_rfl, by kernel_rfl⟩, ⟨Tryz.func207, by kernel_rfl, by kernel_rfl⟩, ⟨Tryz.func187, by kernel_rfl, by kernel_rfl⟩, ⟨Tryz.func133, by kernel_rfl, by kernel_rfl⟩, ⟨Tryz.func111, by kernel_rfl, by kernel_rfl⟩, ⟨Tryz.func55, by kernel_rfl, by kernel_rfl⟩, ⟨Tryz.func78, by kernel_rfl, by kernel_rfl⟩, ⟨Tryz.func87, by kernel_rfl, by kernel_rfl⟩, ⟨Tryz.func134, by kernel_rfl, by kernel_rfl⟩, ⟨Tryz.func125, by kernel_rfl, by kernel_rfl⟩, ⟨Tryz.func241, by kernel_rfl, by kernel_rfl⟩, ⟨Tryz.func282, by kernel_rfl, by kernel_rfl⟩, ⟨Tryz.func267, by kernel_rfl, by kernel_rfl⟩, ⟨Tryz.func268, by kernel_rfl, by kernel_rfl⟩, ⟨Tryz.func269, by kernel_rfl, by kernel_rfl⟩, ⟨Tryz.func270, by kernel_rfl, by kernel_rfl⟩, ⟨Tryz.func240, by kernel_rfl, by kernel_rfl⟩, ⟨Tryz.func180, by kernel_rfl, by kernel_rfl⟩, ⟨Tryz.func124, by kernel_rfl, by kernel_rfl⟩, ⟨Tryz.func135, by kernel_rfl, by kernel_rfl⟩, ⟨Tryz.func79, by kernel_rfl, by kernel_rfl⟩, ⟨Tryz.func88, by kernel_rfl, by kernel_rfl⟩, ⟨Tryz.func37, by kernel_rfl, by kernel_rfl⟩, ⟨Tryz.func232, by kernel_rfl, by kernel_rfl⟩, ⟨Tryz.func233, by kernel_rfl, by kernel_rfl⟩, ⟨Tryz.func242, by kernel_rfl, by kernel_rfl⟩, ⟨Tryz.func149, by kernel_rfl, by kernel_rfl⟩, ⟨Tryz.func271, by kernel_rfl, by kernel_rfl⟩, ⟨Tryz.func243, by kernel_rfl, by kernel_rfl⟩, ⟨Tryz.func244, by kernel_rfl, by kernel_rfl⟩, ⟨Tryz.func129, by kernel_rfl, by kernel_rfl⟩, ⟨Tryz.func70, by kernel_rfl, by kernel_rfl⟩, ⟨Tryz.func181, by kernel_rfl, by kernel_rfl⟩, ⟨Tryz.func182, by kernel_rfl, by kernel_rfl⟩, ⟨Tryz.func126, by kernel_rfl, by kernel_rfl⟩, ⟨Tryz.func67, by kernel_rfl, by kernel_rfl⟩, ⟨Tryz.func236, by kernel_rfl, by kernel_rfl⟩, ⟨Tryz.func235, by kernel_rfl, by kernel_rfl⟩, ⟨Tryz.func266, by kernel_rfl, by kernel_rfl⟩, ⟨Tryz.func234, by kernel_rfl, by kernel_rfl⟩, ⟨Tryz.func174, by kernel_rfl, by kernel_rfl⟩, ⟨Tryz.func116, by kernel_rfl, by kernel_rfl⟩, ⟨Tryz.func151, by kernel_rfl, by kernel_rfl⟩, ⟨Tryz.func274, by kernel_rfl, by kernel_rfl⟩, ⟨Tryz.func246, by kernel_rfl, by kernel_rfl⟩, ⟨Tryz.func227, by kernel_rfl, by kernel_rfl⟩, ⟨Tryz.func215, by kernel_rfl, by kernel_rfl⟩, ⟨Tryz.func257, by kernel_rfl, by kernel_rfl⟩, ⟨Tryz.func258, by kernel_rfl, by kernel_rfl⟩, ⟨Tryz.func212, by kernel_rfl, by kernel_rfl⟩, ⟨Tryz.func188, by kernel_rfl, by kernel_rfl⟩, ⟨Tryz.func190, by kernel_rfl, by kernel_rfl⟩, ⟨Tryz.func247, by kernel_rfl, by kernel_rfl⟩, ⟨Tryz.func189, by kernel_rfl, by kernel_rfl⟩, ⟨Tryz.func137, by kernel_rfl, by kernel_rfl⟩, ⟨Tryz.func118, by kernel_rfl, by kernel_rfl⟩, ⟨Tryz.func117, by kernel_rfl, by kernel_rfl⟩, ⟨Tryz.func58, by kernel_rfl, by kernel_rfl⟩, ⟨Tryz.func82, by kernel_rfl, by kernel_rfl⟩, ⟨Tryz.func183, by kernel_rfl, by kernel_rfl⟩, ⟨Tryz.func127, by kernel_rfl, by kernel_rfl⟩, ⟨Tryz.func249, by kernel_rfl, by kernel_rfl⟩, ⟨Tryz.func191, by kernel_rfl, by kernel_rfl⟩, ⟨Tryz.func138, by kernel_rfl, by kernel_rfl⟩, ⟨Tryz.func99, by kernel_rfl, by kernel_rfl⟩, ⟨Tryz.func275, by kernel_rfl, by kernel_rfl⟩, ⟨Tryz.func276, by kernel_rfl, by kernel_rfl⟩, ⟨Tryz.func251, by kernel_rfl, by kernel_rfl⟩, ⟨Tryz.func252, by kernel_rfl, by kernel_rfl⟩, ⟨Tryz.func253, by kernel_rfl, by kernel_rfl⟩, ⟨Tryz.func254, by kernel_rfl, by kernel_rfl⟩, ⟨Tryz.func198, by kernel_rfl, by kernel_rfl⟩, ⟨Tryz.func148, by kernel_rfl, by kernel_rfl⟩, ⟨Tryz.func98, by kernel_rfl, by kernel_rfl⟩, ⟨Tryz.func139, by kernel_rfl, by kernel_rfl⟩, ⟨Tryz.func83, by kernel_rfl, by kernel_rfl⟩, ⟨Tryz.func89, by kernel_rfl, by kernel_rfl⟩, ⟨Tryz.func130, by kernel_rfl, by kernel_rfl⟩, ⟨Tryz.func90, by kernel_rfl, by kernel_rfl⟩, ⟨Tryz.func38, by kernel_rfl, by kernel_rfl⟩, ⟨Tryz.func73, by kernel_rfl, by kernel_rfl⟩, ⟨Tryz.func28, by kernel_rfl, by kernel_rfl⟩, ⟨Tryz.func237, by kernel_rfl, by kernel_rfl⟩, ⟨Tryz.func176, by kernel_rfl, by kernel_rfl⟩, ⟨Tryz.func121, by kernel_rfl, by kernel_rfl⟩, ⟨Tryz.func60, by kernel_rfl, by kernel_rfl⟩, ⟨Tryz.func18, by kernel_rfl, by kernel_rfl⟩, ⟨Tryz.func84, by kernel_rfl, by kernel_rfl⟩, ⟨Tryz.func140, by kernel_rfl, by kernel_rfl⟩, ⟨Tryz.func85, by kernel_rfl, by kernel_rfl⟩, ⟨Tryz.func36, by kernel_rfl, by kernel_rfl⟩, ⟨Tryz.func17, by kernel_rfl, by kernel_rfl⟩, ⟨Tryz.func19, by kernel_rfl, by kernel_rfl⟩, ⟨Tryz.func7, by kernel_rfl, by kernel_rfl⟩, trivial⟩ trivial (by kernel_rfl)
theorem nats : NatOk Tryz.prog H := nat_of (keys := keysL) rfl ⟨.plain rfl, .plain rfl, .plain rfl, .plain rfl, .plain rfl, .plain rfl, .plain rfl, .plain rfl, .plain rfl, .plain rfl, .plain rfl, .plain rfl, .plain rfl, .plain rfl, .plain rfl, .plain rfl, .plain rfl, .plain rfl, .plain rfl, .plain rfl, .plain rfl, .plain rfl, .plain rfl, .plain rfl, .plain rfl, .plain rfl, .plain rfl, .plain rfl, .plain rfl, .plain rfl, .plain rfl, .plain rfl, .plain rfl, .plain rfl, .plain rfl, .plain rfl, .plain rfl, .plain rfl, .plain rfl, .plain rfl, .plain rfl, .plain rfl, .plain rfl, .plain rfl, .plain rfl, .plain rfl, .plain rfl, .plain rfl, .plain rfl, .plain rfl, .plain rfl, .plain rfl, .plain rfl, .plain rfl, .plain rfl, .plain rfl, .plain rfl, .plain rfl, .plain rfl, .plain rfl, .plain rfl, .plain rfl, .plain rfl, .plain rfl, .plain rfl, .plain rfl, .plain rfl, .plain rfl, .plain rfl, .plain rfl, .plain rfl, .plain rfl, .plain rfl, .plain rfl, .plain rfl, .plain rfl, .plain rfl, .plain rfl, .plain rfl, .plain rfl, .plain rfl, .plain rfl, .plain rfl, .plain rfl, .plain rfl, .sort Tryz.sortOk, .compact (by decide) Tryz.compactOk, .plain rfl, .plain rfl, .plain rfl, .plain rfl, .plain rfl, .plain rfl, .plain rfl, .plain rfl, .plain rfl, .plain rfl, .plain rfl, .plain rfl, .plain rfl, .plain rfl, .plain rfl, .plain rfl, .plain rfl, .plain rfl, .plain rfl, .plain rfl, .plain rfl, .plain rfl, .plain rfl, .plain rfl, .plain rfl, .plain rfl, .plain rfl, .plain rfl, .plain rfl, .plain rfl, .plain rfl, .plain rfl, .plain rfl, .plain rfl, .plain rfl, .plain rfl, .plain rfl, .plain rfl, .plain rfl, .plain rfl, .plain rfl, .plain rfl, .plain rfl, .plain rfl, .plain rfl, trivial⟩
end Go.Proofs.YtmfoobckeoaklaaGreat.R
