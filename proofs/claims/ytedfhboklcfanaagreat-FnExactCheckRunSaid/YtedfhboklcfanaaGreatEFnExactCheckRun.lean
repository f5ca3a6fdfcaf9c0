/- Kinds, signatures and loops of the functions that the laws reach, and what each computes. -/
import Derived.Test.YtedfhboklcfanaaGreatRfE
import Derived.Test.YtedfhboklcfanaaGreatProg
import Derived.KernelRfl
import Derived.Test.YtedfhboklcfanaaGreatShelf
import Derived.Test.YtedfhboklcfanaaGreatBack
set_option linter.unusedVariables false
namespace Go.Proofs.YtedfhboklcfanaaGreat.R
open Go.Rf Go.Proofs
def tySaid : Ty := (.pair (.int .i64) (.int .i64))
abbrev DSaid := Int × Int
def tyNode : Ty := (.pair (.int .i64) (.int .u64))
abbrev DNode := Int × Int
def tySight : Ty := (.one (.sl (.int .i64)))
abbrev DSight := Bool × List Int
def tyLasso : Ty := (.pair (.sl (.int .i64)) (.sl (.int .i64)))
abbrev DLasso := (Bool × List Int) × Bool × List Int
def tyEdge : Ty := (.pair (.int .i64) tySaid)
abbrev DEdge := Int × DSaid
def tyboundsError : Ty := (.pair (.int .i64) (.pair (.int .i64) (.pair .bool (.int .u8))))
abbrev DboundsError := Int × Int × Bool × Int
def tyChange : Ty := (.pair (.int .i64) (.sl tyNode))
abbrev DChange := Int × Bool × List DNode
def tyl11Walk : Ty := (.pair (.sl (.sl (.int .i64))) (.pair (.sl .bool) (.sl (.int .i64))))
abbrev Dl11Walk := (Bool × List (Bool × List Int)) × (Bool × List Bool) × Bool × List Int
def tyCommand : Ty := (.pair (.sl tyNode) (.sl tyChange))
abbrev DCommand := (Bool × List DNode) × Bool × List DChange
def tyOutcome : Ty := (.pair (.int .i64) (.pair (.sl (.int .i64)) (.pair (.sl (.int .i64)) (.pair (.int .i64) tySight))))
abbrev DOutcome := Int × (Bool × List Int) × (Bool × List Int) × Int × DSight
def tyAuto : Ty := (.pair (.int .i64) (.pair (.sl (.int .i64)) (.pair (.sl tyEdge) (.sl (.sl (.int .i64))))))
abbrev DAuto := Int × (Bool × List Int) × (Bool × List DEdge) × Bool × List (Bool × List Int)
def tytarjan : Ty := (.pair (.sl (.sl (.int .i64))) (.pair (.sl (.int .i64)) (.pair (.sl (.int .i64)) (.pair (.sl (.int .i64)) (.pair (.sl (.int .i64)) (.int .i64))))))
abbrev Dtarjan := (Bool × List (Bool × List Int)) × (Bool × List Int) × (Bool × List Int) × (Bool × List Int) × (Bool × List Int) × Int
def tyProgram : Ty := (.pair (.int .i64) (.pair (.int .i64) (.pair (.sl tyNode) (.sl tyCommand))))
abbrev DProgram := Int × Int × (Bool × List DNode) × Bool × List DCommand
def tyQuestion : Ty := (.pair tyProgram (.pair (.sl (.sl tyNode)) (.sl tySaid)))
abbrev DQuestion := DProgram × (Bool × List (Bool × List DNode)) × Bool × List DSaid
noncomputable def h_laws_szNodeS : FnH := ⟨59, Tryz.f59, (.tup (.v (.sl tyNode)) (.tup (.v (.int .i64)) .unit)), (.tup (.v (.int .i64)) .unit), [], [], [], [], [], none⟩
noncomputable def h_laws_szChange : FnH := ⟨264, Tryz.f264, (.tup (.v tyChange) (.tup (.v (.int .i64)) .unit)), (.tup (.v (.int .i64)) .unit), [], [], [], [], [], none⟩
noncomputable def h_laws_szChangeS : FnH := ⟨206, Tryz.f206, (.tup (.v (.sl tyChange)) (.tup (.v (.int .i64)) .unit)), (.tup (.v (.int .i64)) .unit), [], [], [(0, ⟨[(0, (.v (.sl tyChange))), (1, (.v (.int .i64))), (5, (.v (.int .i64)))], [(.ret, [(4, (.v (.int .i64)))]), (.exit 0, [(1, (.v (.int .i64)))])], []⟩)], [], [], none⟩
noncomputable def h_laws_szCommand : FnH := ⟨137, Tryz.f137, (.tup (.v tyCommand) (.tup (.v (.int .i64)) .unit)), (.tup (.v (.int .i64)) .unit), [], [], [], [], [], none⟩
noncomputable def h_laws_szCommandS : FnH := ⟨77, Tryz.f77, (.tup (.v (.sl tyCommand)) (.tup (.v (.int .i64)) .unit)), (.tup (.v (.int .i64)) .unit), [], [], [(0, ⟨[(0, (.v (.sl tyCommand))), (1, (.v (.int .i64))), (5, (.v (.int .i64)))], [(.ret, [(4, (.v (.int .i64)))]), (.exit 0, [(1, (.v (.int .i64)))])], []⟩)], [], [], none⟩
noncomputable def h_laws_szProgram : FnH := ⟨31, Tryz.f31, (.tup (.v tyProgram) (.tup (.v (.int .i64)) .unit)), (.tup (.v (.int .i64)) .unit), [], [], [], [], [], none⟩
noncomputable def h_laws_szNodeSS : FnH := ⟨22, Tryz.f22, (.tup (.v (.sl (.sl tyNode))) (.tup (.v (.int .i64)) .unit)), (.tup (.v (.int .i64)) .unit), [], [], [(0, ⟨[(0, (.v (.sl (.sl tyNode)))), (1, (.v (.int .i64))), (5, (.v (.int .i64)))], [(.ret, [(4, (.v (.int .i64)))]), (.exit 0, [(1, (.v (.int .i64)))])], []⟩)], [], [], none⟩
noncomputable def h_laws_szSaidS : FnH := ⟨32, Tryz.f32, (.tup (.v (.sl tySaid)) (.tup (.v (.int .i64)) .unit)), (.tup (.v (.int .i64)) .unit), [], [], [], [], [], none⟩
noncomputable def h_laws_szQuestion : FnH := ⟨6, Tryz.f6, (.tup (.v tyQuestion) (.tup (.v (.int .i64)) .unit)), (.tup (.v (.int .i64)) .unit), [], [], [], [], [], none⟩
noncomputable def h_laws_toNode : FnH := ⟨125, Tryz.f125, (.tup (.v tyNode) .unit), (.tup (.v tyNode) .unit), [], [], [], [], [], none⟩
noncomputable def h_laws_toNodeS : FnH := ⟨69, Tryz.f69, (.tup (.v (.sl tyNode)) .unit), (.tup (.own 206850 tyNode true) .unit), [], [], [(0, ⟨[(0, (.v (.sl tyNode))), (3, (.own 206849 tyNode true)), (4, (.v (.int .i64)))], [(.exit 0, [(1206849, (.own 206849 tyNode true))])], [3]⟩)], [], [], none⟩
noncomputable def h_laws_toChange : FnH := ⟨269, Tryz.f269, (.tup (.v tyChange) .unit), (.tup (.pair (.v (.int .i64)) (.own 206851 tyNode true)) .unit), [], [], [], [], [], none⟩
noncomputable def h_laws_toChangeS : FnH := ⟨212, Tryz.f212, (.tup (.v (.sl tyChange)) .unit), (.tup (.own 206853 tyChange true) .unit), [], [], [(0, ⟨[(0, (.v (.sl tyChange))), (3, (.own 206852 tyChange true)), (4, (.v (.int .i64)))], [(.exit 0, [(1206852, (.own 206852 tyChange true))])], [3]⟩)], [], [], none⟩
noncomputable def h_laws_toCommand : FnH := ⟨146, Tryz.f146, (.tup (.v tyCommand) .unit), (.tup (.pair (.own 206854 tyNode true) (.own 206855 tyChange true)) .unit), [], [], [], [], [], none⟩
noncomputable def h_laws_toCommandS : FnH := ⟨87, Tryz.f87, (.tup (.v (.sl tyCommand)) .unit), (.tup (.own 206857 tyCommand true) .unit), [], [], [(0, ⟨[(0, (.v (.sl tyCommand))), (3, (.own 206856 tyCommand true)), (4, (.v (.int .i64)))], [(.exit 0, [(1206856, (.own 206856 tyCommand true))])], [3]⟩)], [], [], none⟩
noncomputable def h_laws_toProgram : FnH := ⟨39, Tryz.f39, (.tup (.v tyProgram) .unit), (.tup (.pair (.v (.int .i64)) (.pair (.v (.int .i64)) (.pair (.own 206858 tyNode true) (.own 206859 tyCommand true)))) .unit), [], [], [], [], [], none⟩
noncomputable def h_laws_toNodeSS : FnH := ⟨24, Tryz.f24, (.tup (.v (.sl (.sl tyNode))) .unit), (.tup (.own 206861 (.sl tyNode) true) .unit), [], [], [(0, ⟨[(0, (.v (.sl (.sl tyNode)))), (3, (.own 206860 (.sl tyNode) true)), (4, (.v (.int .i64)))], [(.exit 0, [(1206860, (.own 206860 (.sl tyNode) true))])], [3]⟩)], [], [], none⟩
noncomputable def h_laws_toSaid : FnH := ⟨88, Tryz.f88, (.tup (.v tySaid) .unit), (.tup (.v tySaid) .unit), [], [], [], [], [], none⟩
noncomputable def h_laws_toSaidS : FnH := ⟨40, Tryz.f40, (.tup (.v (.sl tySaid)) .unit), (.tup (.own 206863 tySaid true) .unit), [], [], [(0, ⟨[(0, (.v (.sl tySaid))), (3, (.own 206862 tySaid true)), (4, (.v (.int .i64)))], [(.exit 0, [(1206862, (.own 206862 tySaid true))])], [3]⟩)], [], [], none⟩
noncomputable def h_laws_toQuestion : FnH := ⟨8, Tryz.f8, (.tup (.v tyQuestion) .unit), (.tup (.pair (.pair (.v (.int .i64)) (.pair (.v (.int .i64)) (.pair (.own 206864 tyNode true) (.own 206865 tyCommand true)))) (.pair (.own 206866 (.sl tyNode) true) (.own 206867 tySaid true))) .unit), [], [], [], [], [], none⟩
noncomputable def h_laws_toIntS : FnH := ⟨9, Tryz.f9, (.tup (.v (.sl (.int .i64))) .unit), (.tup (.own 206869 (.int .i64) true) .unit), [], [], [(0, ⟨[(0, (.v (.sl (.int .i64)))), (3, (.own 206868 (.int .i64) true)), (4, (.v (.int .i64)))], [(.exit 0, [(1206868, (.own 206868 (.int .i64) true))])], [3]⟩)], [], [], none⟩
noncomputable def h_spec_l1In : FnH := ⟨62, Tryz.f62, (.tup (.v (.int .i64)) (.tup (.v (.int .i64)) (.tup (.v (.int .i64)) .unit))), (.tup (.v .bool) .unit), [], [], [], [], [], none⟩
noncomputable def h_spec_l1Wide : FnH := ⟨247, Tryz.f247, (.tup (.v (.int .i64)) .unit), (.tup (.v .bool) .unit), [], [], [], [], [], none⟩
noncomputable def h_spec_l2Need : FnH := ⟨207, Tryz.f207, (.tup (.v (.int .i64)) .unit), (.tup (.v (.int .i64)) (.tup (.v (.int .i64)) (.tup (.v (.int .i64)) .unit))), [], [], [], [], [], none⟩
noncomputable def h_spec_l1Cut : FnH := ⟨208, Tryz.f208, (.tup (.v (.int .i64)) (.tup (.v (.int .u64)) .unit)), (.tup (.v (.int .u64)) .unit), [], [], [(0, ⟨[(0, (.v (.int .i64))), (1, (.v (.int .u64))), (5, (.v (.int .u64))), (6, (.v (.int .i64)))], [(.exit 0, [(5, (.v (.int .u64)))])], []⟩)], [], [], none⟩
noncomputable def h_spec_GoodWord : FnH := ⟨280, Tryz.f280, (.tup (.v (.int .i64)) (.tup (.v (.int .u64)) .unit)), (.tup (.v .bool) .unit), [], [], [], [], [], none⟩
noncomputable def h_spec_l2N : FnH := ⟨248, Tryz.f248, (.tup (.v (.int .i64)) (.tup (.v (.int .i64)) (.tup (.v tyNode) .unit))), (.tup (.v .bool) .unit), [], [], [], [], [], none⟩
noncomputable def h_spec_l2Kind : FnH := ⟨194, Tryz.f194, (.tup (.v (.int .i64)) (.tup (.v (.int .i64)) (.tup (.v (.sl tyNode)) .unit))), (.tup (.v (.int .i64)) .unit), [], [], [(0, ⟨[(0, (.v (.int .i64))), (1, (.v (.int .i64))), (7, (.own 206870 (.int .i64) true)), (27, (.v (.sl tyNode))), (28, (.v (.int .i64))), (29, (.v (.int .i64)))], [(.ret, [(6, (.v (.int .i64)))]), (.exit 0, [(7, (.own 206873 (.int .i64) true))])], []⟩), (2, ⟨[(0, (.v (.int .i64))), (1, (.v (.int .i64))), (7, (.own 206871 (.int .i64) true)), (10, (.v (.int .i64))), (11, (.v (.int .i64))), (12, (.v (.int .i64))), (27, (.v (.sl tyNode))), (28, (.v (.int .i64))), (29, (.v (.int .i64)))], [(.ret, [(6, (.v (.int .i64)))]), (.exit 2, [(7, (.own 206872 (.int .i64) true))])], [0, 1, 12, 27, 28, 29]⟩)], [], [], none⟩
noncomputable def h_spec_l7Asks : FnH := ⟨119, Tryz.f119, (.tup (.v tyProgram) (.tup (.v (.sl tyNode)) .unit)), (.tup (.v .bool) .unit), [], [], [], [], [], none⟩
noncomputable def h_spec_l7Command : FnH := ⟨244, Tryz.f244, (.tup (.v tyProgram) (.tup (.v tyCommand) .unit)), (.tup (.v .bool) .unit), [], [], [(0, ⟨[(2, (.sp tyProgram)), (3, (.sp tyCommand)), (21, (.v (.sl tyChange))), (22, (.v (.int .i64))), (23, (.v (.int .i64)))], [(.ret, [(4, (.v .bool))]), (.exit 0, [])], []⟩)], [], [], none⟩
noncomputable def h_spec_GoodProgram : FnH := ⟨191, Tryz.f191, (.tup (.v tyProgram) .unit), (.tup (.v .bool) .unit), [], [], [(0, ⟨[(1, (.sp tyProgram)), (18, (.v (.sl tyCommand))), (19, (.v (.int .i64))), (20, (.v (.int .i64)))], [(.ret, [(2, (.v .bool))]), (.exit 0, [])], []⟩)], [], [], none⟩
noncomputable def h_spec_l7Small : FnH := ⟨117, Tryz.f117, (.tup (.v tyProgram) .unit), (.tup (.v .bool) .unit), [], [], [], [], [], none⟩
noncomputable def h_spec_l10Need : FnH := ⟨245, Tryz.f245, (.tup (.v (.int .i64)) .unit), (.tup (.v (.int .i64)) .unit), [], [], [], [], [], none⟩
noncomputable def h_spec_l10N : FnH := ⟨246, Tryz.f246, (.tup (.v tySaid) .unit), (.tup (.v .bool) .unit), [], [], [], [], [], none⟩
noncomputable def h_spec_GoodSaid : FnH := ⟨192, Tryz.f192, (.tup (.v (.sl tySaid)) .unit), (.tup (.v .bool) .unit), [], [], [(0, ⟨[(3, (.v (.int .i64))), (11, (.v (.sl tySaid))), (12, (.v (.int .i64))), (13, (.v (.int .i64)))], [(.ret, [(2, (.v .bool))]), (.exit 0, [(3, (.v (.int .i64)))])], []⟩)], [], [], none⟩
noncomputable def h_spec_l1Put : FnH := ⟨141, Tryz.f141, (.tup (.v (.sl (.int .i64))) (.tup (.v (.int .i64)) .unit)), (.tup (.v (.sl (.int .i64))) .unit), [], [], [(0, ⟨[(0, (.v (.sl (.int .i64)))), (1, (.v (.int .i64))), (5, (.v (.int .i64)))], [(.exit 0, [(5, (.v (.int .i64)))])], [0, 1]⟩)], [], [], none⟩
noncomputable def h_spec_l13Tracked : FnH := ⟨193, Tryz.f193, (.tup (.v (.sl tySaid)) .unit), (.tup (.v (.sl (.int .i64))) .unit), [], [], [(0, ⟨[(3, (.v (.sl (.int .i64)))), (10, (.v (.sl tySaid))), (11, (.v (.int .i64))), (12, (.v (.int .i64)))], [(.exit 0, [(3, (.v (.sl (.int .i64))))])], []⟩)], [], [], none⟩
noncomputable def h_spec_l13Good : FnH := ⟨118, Tryz.f118, (.tup (.v (.sl tySaid)) .unit), (.tup (.v .bool) .unit), [], [], [], [], [], none⟩
noncomputable def h_spec_GoodQuestion : FnH := ⟨60, Tryz.f60, (.tup (.v tyQuestion) .unit), (.tup (.v .bool) .unit), [], [], [(0, ⟨[(1, (.sp tyQuestion)), (22, (.v (.sl (.sl tyNode)))), (23, (.v (.int .i64))), (24, (.v (.int .i64)))], [(.ret, [(2, (.v .bool))]), (.exit 0, [])], []⟩)], [], [], none⟩
noncomputable def h_spec_l7Many : FnH := ⟨79, Tryz.f79, (.tup (.v tyProgram) .unit), (.tup (.v (.int .i64)) .unit), [], [], [], [], [], none⟩
noncomputable def h_spec_l1All : FnH := ⟨138, Tryz.f138, (.tup (.v (.sl (.int .i64))) (.tup (.v (.int .i64)) (.tup (.v (.int .i64)) .unit))), (.tup (.v .bool) .unit), [], [], [(0, ⟨[(1, (.v (.int .i64))), (2, (.v (.int .i64))), (9, (.v (.sl (.int .i64)))), (10, (.v (.int .i64))), (11, (.v (.int .i64)))], [(.ret, [(6, (.v .bool))]), (.exit 0, [])], []⟩)], [], [], none⟩
noncomputable def h_spec_l14States : FnH := ⟨78, Tryz.f78, (.tup (.v tyQuestion) (.tup (.v (.sl (.int .i64))) .unit)), (.tup (.v .bool) .unit), [], [], [], [], [], none⟩
noncomputable def h_spec_l14Told : FnH := ⟨33, Tryz.f33, (.tup (.v tyQuestion) (.tup (.v (.sl (.int .i64))) (.tup (.v (.sl (.int .i64))) .unit))), (.tup (.v .bool) .unit), [], [], [], [], [], none⟩
noncomputable def h_spec_l7Of : FnH := ⟨81, Tryz.f81, (.tup (.v tyProgram) (.tup (.v (.int .i64)) .unit)), (.tup (.own 206879 (.int .u64) true) .unit), [], [], [(0, ⟨[(1, (.v (.int .i64))), (2, (.sp tyProgram)), (5, (.own 206877 (.int .u64) true)), (6, (.v (.int .i64)))], [(.exit 0, [(5, (.own 206878 (.int .u64) true))])], []⟩)], [], [], none⟩
noncomputable def h_spec_l2From : FnH := ⟨210, Tryz.f210, (.tup (.v (.sl tyNode)) (.tup (.v (.int .i64)) .unit)), (.tup (.v (.int .i64)) .unit), [], [], [(0, ⟨[(0, (.v (.sl tyNode))), (5, (.v (.int .i64))), (8, (.v (.int .i64)))], [(.exit 0, [(8, (.v (.int .i64)))])], []⟩)], [], [], none⟩
noncomputable def h_spec_l1Both : FnH := ⟨289, Tryz.f289, (.tup (.v (.int .i64)) (.tup (.v (.int .u64)) (.tup (.v (.int .u64)) .unit))), (.tup (.v .bool) .unit), [], [], [], [], [], none⟩
noncomputable def h_spec_DivWord : FnH := ⟨265, Tryz.f265, (.tup (.v (.int .i64)) (.tup (.v (.int .u64)) (.tup (.v (.int .u64)) .unit))), (.tup (.v (.int .u64)) (.tup (.v (.int .u64)) (.tup (.v .bool) .unit))), [], [], [], [], [], none⟩
noncomputable def h_spec_l1Shift : FnH := ⟨266, Tryz.f266, (.tup (.v (.int .i64)) (.tup (.v (.int .u64)) (.tup (.v (.int .u64)) (.tup (.v .bool) .unit)))), (.tup (.v (.int .u64)) .unit), [], [], [(0, ⟨[(0, (.v (.int .i64))), (1, (.v (.int .u64))), (2, (.v (.int .u64))), (3, (.v .bool))], [(.exit 0, [(1, (.v (.int .u64)))])], []⟩)], [], [], none⟩
noncomputable def h_spec_l2Bool : FnH := ⟨267, Tryz.f267, (.tup (.v .bool) .unit), (.tup (.v (.int .u64)) .unit), [], [], [], [], [], none⟩
noncomputable def h_spec_l1Signed : FnH := ⟨268, Tryz.f268, (.tup (.v (.int .i64)) (.tup (.v (.int .u64)) .unit)), (.tup (.v (.int .i64)) .unit), [], [], [], [], [], none⟩
noncomputable def h_spec_l2Do : FnH := ⟨209, Tryz.f209, (.tup (.v (.int .i64)) (.tup (.v (.int .i64)) (.tup (.v (.int .u64)) (.tup (.v (.int .u64)) .unit)))), (.tup (.v (.int .u64)) .unit), [], [], [], [], [], none⟩
noncomputable def h_spec_l2Value : FnH := ⟨139, Tryz.f139, (.tup (.v (.int .i64)) (.tup (.v (.sl tyNode)) (.tup (.v (.int .i64)) (.tup (.v (.sl (.int .u64))) .unit)))), (.tup (.v (.int .u64)) .unit), [], [], [], [], [], none⟩
noncomputable def h_spec_l7Holds : FnH := ⟨80, Tryz.f80, (.tup (.v tyProgram) (.tup (.v (.sl tyNode)) (.tup (.v (.sl (.int .u64))) .unit))), (.tup (.v .bool) .unit), [], [], [], [], [], none⟩
noncomputable def h_spec_l8Those : FnH := ⟨35, Tryz.f35, (.tup (.v tyProgram) (.tup (.v (.sl tyNode)) .unit)), (.tup (.own 206881 (.int .i64) true) .unit), [], [], [(0, ⟨[(1, (.v (.sl tyNode))), (2, (.sp tyProgram)), (5, (.own 206876 (.int .i64) true)), (6, (.v (.int .i64)))], [(.exit 0, [(5, (.own 206880 (.int .i64) true))])], []⟩)], [], [], none⟩
noncomputable def h_spec_l1Has : FnH := ⟨34, Tryz.f34, (.tup (.v (.sl (.int .i64))) (.tup (.v (.int .i64)) .unit)), (.tup (.v .bool) .unit), [], [], [(0, ⟨[(1, (.v (.int .i64))), (7, (.v (.sl (.int .i64)))), (8, (.v (.int .i64))), (9, (.v (.int .i64)))], [(.ret, [(4, (.v .bool))]), (.exit 0, [])], []⟩)], [], [], none⟩
noncomputable def h_spec_l1Own : FnH := ⟨82, Tryz.f82, (.tup (.v (.sl (.int .i64))) .unit), (.tup (.own 206882 (.int .i64) true) .unit), [], [], [], [], [], none⟩
noncomputable def h_spec_l7Enabled : FnH := ⟨140, Tryz.f140, (.tup (.v tyProgram) (.tup (.v (.sl (.int .u64))) .unit)), (.tup (.own 206885 (.int .i64) true) .unit), [], [], [(0, ⟨[(1, (.v (.sl (.int .u64)))), (2, (.sp tyProgram)), (5, (.own 206883 (.int .i64) true)), (9, (.v (.sl tyCommand))), (10, (.v (.int .i64))), (11, (.v (.int .i64)))], [(.exit 0, [(5, (.own 206884 (.int .i64) true))])], []⟩)], [], [], none⟩
noncomputable def h_spec_l7Do : FnH := ⟨143, Tryz.f143, (.tup (.v tyProgram) (.tup (.v (.sl (.int .u64))) (.tup (.v (.int .i64)) .unit))), (.tup (.own 206888 (.int .u64) true) .unit), [], [], [(0, ⟨[(1, (.v (.sl (.int .u64)))), (3, (.sp tyProgram)), (7, (.own 206887 (.int .u64) true)), (18, (.v (.sl tyChange))), (19, (.v (.int .i64))), (20, (.v (.int .i64)))], [(.exit 0, [(1206887, (.own 206887 (.int .u64) true))])], [7]⟩)], [], [], none⟩
noncomputable def h_spec_l7No : FnH := ⟨142, Tryz.f142, (.tup (.v tyProgram) (.tup (.v (.sl (.int .u64))) .unit)), (.tup (.v (.int .i64)) .unit), [], [], [(0, ⟨[(1, (.v (.sl (.int .u64)))), (2, (.sp tyProgram)), (5, (.v (.int .i64))), (6, (.v (.int .i64)))], [(.exit 0, [(5, (.v (.int .i64)))])], []⟩)], [], [], none⟩
noncomputable def h_spec_l8Next : FnH := ⟨83, Tryz.f83, (.tup (.v tyProgram) (.tup (.v (.int .i64)) .unit)), (.tup (.v (.sl (.int .i64))) .unit), [], [], [(0, ⟨[(1, (.v (.int .i64))), (2, (.sp tyProgram)), (5, (.v (.sl (.int .u64)))), (6, (.v (.sl (.int .i64)))), (14, (.v (.sl (.int .i64)))), (15, (.v (.int .i64))), (16, (.v (.int .i64)))], [(.exit 0, [(6, (.v (.sl (.int .i64))))])], [1]⟩)], [], [], none⟩
noncomputable def h_spec_l14IsRun : FnH := ⟨36, Tryz.f36, (.tup (.v tyQuestion) (.tup (.v (.sl (.int .i64))) (.tup (.v (.sl (.int .i64))) .unit))), (.tup (.v .bool) .unit), [], [], [(0, ⟨[(3, (.sp tyQuestion)), (7, (.v (.sl (.int .i64)))), (8, (.v (.int .i64)))], [(.ret, [(6, (.v .bool))]), (.exit 0, [])], []⟩)], [], [], none⟩
noncomputable def h_spec_l14Letter : FnH := ⟨86, Tryz.f86, (.tup (.v tyQuestion) (.tup (.v (.int .i64)) .unit)), (.tup (.v (.int .i64)) .unit), [], [], [(0, ⟨[(1, (.v (.int .i64))), (2, (.sp tyQuestion)), (5, (.v (.int .i64))), (9, (.v (.sl (.sl tyNode)))), (10, (.v (.int .i64))), (11, (.v (.int .i64)))], [(.exit 0, [(5, (.v (.int .i64)))])], []⟩)], [], [], none⟩
noncomputable def h_spec_l14Word : FnH := ⟨38, Tryz.f38, (.tup (.v tyQuestion) (.tup (.v (.sl (.int .i64))) (.tup (.v (.sl (.int .i64))) .unit))), (.tup (.pair (.own 206900 (.int .i64) true) (.own 206901 (.int .i64) true)) .unit), [], [], [(0, ⟨[(2, (.v (.sl (.int .i64)))), (3, (.sp tyQuestion)), (6, (.sp tyLasso)), (7, (.box 206890 (.pair (.own 206891 (.int .i64) true) (.own 206893 (.int .i64) true)))), (12, (.v (.sl (.int .i64)))), (13, (.v (.int .i64))), (14, (.v (.int .i64)))], [(.exit 0, [(2206890, (.box 206890 (.pair (.own 206892 (.int .i64) true) (.own 206894 (.int .i64) true))))])], [2, 3, 6, 7]⟩), (2, ⟨[(3, (.sp tyQuestion)), (6, (.sp tyLasso)), (7, (.box 206895 (.pair (.own 206898 (.int .i64) true) (.own 206896 (.int .i64) true)))), (27, (.v (.sl (.int .i64)))), (28, (.v (.int .i64))), (29, (.v (.int .i64)))], [(.exit 2, [(2206895, (.box 206895 (.pair (.own 206899 (.int .i64) true) (.own 206897 (.int .i64) true))))])], [6, 7]⟩)], [], [], none⟩
noncomputable def h_spec_l9At : FnH := ⟨145, Tryz.f145, (.tup (.v tyLasso) (.tup (.v (.int .i64)) .unit)), (.tup (.v (.int .i64)) .unit), [], [], [], [], [], none⟩
noncomputable def h_spec_l10From : FnH := ⟨211, Tryz.f211, (.tup (.v (.sl tySaid)) (.tup (.v (.int .i64)) .unit)), (.tup (.v (.int .i64)) .unit), [], [], [(0, ⟨[(0, (.v (.sl tySaid))), (5, (.v (.int .i64))), (6, (.v (.int .i64)))], [(.exit 0, [(5, (.v (.int .i64)))])], []⟩)], [], [], none⟩
noncomputable def h_spec_l10Cell : FnH := ⟨144, Tryz.f144, (.tup (.v (.sl tySaid)) (.tup (.v (.sl (.sl .bool))) (.tup (.v (.int .i64)) (.tup (.v (.int .i64)) (.tup (.v (.int .i64)) (.tup (.v (.int .i64)) (.tup (.v .bool) .unit))))))), (.tup (.v .bool) .unit), [], [], [], [], [], none⟩
noncomputable def h_spec_l10Table : FnH := ⟨84, Tryz.f84, (.tup (.v (.sl tySaid)) (.tup (.v tyLasso) .unit)), (.tup (.own 206907 (.sl .bool) true) .unit), [], [], [(0, ⟨[(0, (.v (.sl tySaid))), (3, (.sp tyLasso)), (5, (.v (.int .i64))), (6, (.own 206902 (.sl .bool) true)), (21, (.v (.sl tySaid))), (22, (.v (.int .i64))), (23, (.v (.int .i64)))], [(.exit 0, [(6, (.own 206906 (.sl .bool) true))])], []⟩), (2, ⟨[(0, (.v (.sl tySaid))), (3, (.sp tyLasso)), (5, (.v (.int .i64))), (6, (.v (.sl (.sl .bool)))), (7, (.v (.int .i64))), (8, (.sp tySaid)), (9, (.own 206903 .bool true)), (21, (.v (.sl tySaid))), (22, (.v (.int .i64))), (23, (.v (.int .i64))), (31, (.v (.int .i64))), (32, (.v (.int .i64)))], [(.exit 2, [(1206903, (.own 206903 .bool true))])], [0, 3, 5, 6, 7, 9, 21, 22, 23]⟩), (4, ⟨[(0, (.v (.sl tySaid))), (3, (.sp tyLasso)), (5, (.v (.int .i64))), (6, (.v (.sl (.sl .bool)))), (7, (.v (.int .i64))), (9, (.own 206905 .bool true)), (11, (.v (.int .i64))), (21, (.v (.sl tySaid))), (22, (.v (.int .i64))), (23, (.v (.int .i64)))], [(.exit 4, [(1206905, (.own 206905 .bool true))])], [0, 3, 5, 6, 9, 21, 22, 23]⟩), (6, ⟨[(0, (.v (.sl tySaid))), (3, (.sp tyLasso)), (5, (.v (.int .i64))), (6, (.v (.sl (.sl .bool)))), (7, (.v (.int .i64))), (9, (.own 206904 .bool true)), (11, (.v (.int .i64))), (12, (.v (.int .i64))), (21, (.v (.sl tySaid))), (22, (.v (.int .i64))), (23, (.v (.int .i64)))], [(.exit 6, [(1206904, (.own 206904 .bool true))])], [0, 3, 5, 6, 7, 9, 11, 21, 22, 23]⟩)], [], [], none⟩
noncomputable def h_spec_l10Fold : FnH := ⟨85, Tryz.f85, (.tup (.v tyLasso) (.tup (.v (.int .i64)) .unit)), (.tup (.v (.int .i64)) .unit), [], [], [], [], [], none⟩
noncomputable def h_spec_l10At : FnH := ⟨37, Tryz.f37, (.tup (.v (.sl tySaid)) (.tup (.v tyLasso) (.tup (.v (.int .i64)) .unit))), (.tup (.v .bool) .unit), [], [], [], [], [], none⟩
noncomputable def h_spec_CheckRun : FnH := ⟨7, Tryz.f7, (.tup (.v tyQuestion) (.tup (.v (.sl (.int .i64))) (.tup (.v (.sl (.int .i64))) .unit))), (.tup (.v (.int .i64)) (.tup (.v .bool) .unit)), [], [], [], [], [], none⟩
noncomputable def h_impl_isWide : FnH := ⟨249, Tryz.f249, (.tup (.v (.int .i64)) .unit), (.tup (.v .bool) .unit), [], [], [], [], [], none⟩
noncomputable def h_impl_isVars : FnH := ⟨250, Tryz.f250, (.tup (.v (.int .i64)) .unit), (.tup (.v .bool) .unit), [], [], [], [], [], none⟩
noncomputable def h_impl_operandsOf : FnH := ⟨282, Tryz.f282, (.tup (.v (.int .i64)) .unit), (.tup (.v (.int .i64)) (.tup (.v (.int .i64)) (.tup (.v (.int .i64)) .unit))), [], [], [], [], [], none⟩
noncomputable def h_impl_mask : FnH := ⟨94, Tryz.f94, (.tup (.v (.int .i64)) .unit), (.tup (.v (.int .u64)) .unit), [], [], [], [], [], none⟩
noncomputable def h_impl_GoodWord : FnH := ⟨290, Tryz.f290, (.tup (.v (.int .i64)) (.tup (.v (.int .u64)) .unit)), (.tup (.v .bool) .unit), [], [], [], [], [], none⟩
noncomputable def h_impl_isLeafRight : FnH := ⟨283, Tryz.f283, (.tup (.v (.int .i64)) (.tup (.v (.int .i64)) (.tup (.v tyNode) .unit))), (.tup (.v .bool) .unit), [], [], [], [], [], none⟩
noncomputable def h_impl_GoodTerm_1 : FnH := ⟨284, Tryz.f284, (.tup (.v (.int .i64)) (.tup (.sp (.int .i64)) .unit)), (.tup (.v .bool) .unit), [], [], [], [], [], none⟩
noncomputable def h_slices_IndexFunc_int_by_GoodTerm_1 : FnH := ⟨147, Tryz.f147, (.tup (.v (.sl (.int .i64))) (.tup (.v (.fn 284 (.pair (.int .i64) .nil))) .unit)), (.tup (.v (.int .i64)) .unit), [], [], [(0, ⟨[(0, (.v (.sl (.int .i64)))), (1, (.v (.fn 284 (.pair (.int .i64) .nil)))), (7, (.v (.int .i64))), (8, (.v (.int .i64)))], [(.ret, [(4, (.v (.int .i64)))]), (.exit 0, [])], []⟩)], [], [], none⟩
noncomputable def h_slices_ContainsFunc_int_by_GoodTerm_1 : FnH := ⟨90, Tryz.f90, (.tup (.v (.sl (.int .i64))) (.tup (.v (.fn 284 (.pair (.int .i64) .nil))) .unit)), (.tup (.v .bool) .unit), [], [], [], [], [], none⟩
noncomputable def h_impl_GoodTerm : FnH := ⟨255, Tryz.f255, (.tup (.v (.int .i64)) (.tup (.v (.int .i64)) (.tup (.v (.sl tyNode)) .unit))), (.tup (.v .bool) .unit), [], [], [(0, ⟨[(0, (.v (.int .i64))), (1, (.v (.int .i64))), (7, (.own 206908 (.int .i64) true)), (33, (.v (.sl tyNode))), (34, (.v (.int .i64))), (35, (.v (.int .i64)))], [(.ret, [(6, (.v .bool))]), (.exit 0, [(7, (.own 206909 (.int .i64) true))])], []⟩)], [], [], none⟩
noncomputable def h_impl_kindOf : FnH := ⟨256, Tryz.f256, (.tup (.v (.sl tyNode)) .unit), (.tup (.v (.int .i64)) .unit), [], [], [], [], [], none⟩
noncomputable def h_impl_isTermOf : FnH := ⟨199, Tryz.f199, (.tup (.v (.int .i64)) (.tup (.v (.int .i64)) (.tup (.v (.sl tyNode)) (.tup (.v (.int .i64)) .unit)))), (.tup (.v .bool) .unit), [], [], [], [], [], none⟩
noncomputable def h_impl_Program_isCondition : FnH := ⟨130, Tryz.f130, (.tup (.v tyProgram) (.tup (.v (.sl tyNode)) .unit)), (.tup (.v .bool) .unit), [], [], [], [], [], none⟩
noncomputable def h_impl_Program_isCommand : FnH := ⟨253, Tryz.f253, (.tup (.v tyProgram) (.tup (.v tyCommand) .unit)), (.tup (.v .bool) .unit), [], [], [(0, ⟨[(2, (.sp tyProgram)), (3, (.sp tyCommand)), (13, (.v (.sl tyChange))), (14, (.v (.int .i64))), (15, (.v (.int .i64)))], [(.ret, [(4, (.v .bool))]), (.exit 0, [])], []⟩)], [], [], none⟩
noncomputable def h_impl_GoodProgram_1 : FnH := ⟨252, Tryz.f252, (.tup (.v tyCommand) (.tup (.sp tyProgram) .unit)), (.tup (.v .bool) .unit), [], [], [], [], [], none⟩
noncomputable def h_slices_IndexFunc_Command_by_GoodProgram_1 : FnH := ⟨281, Tryz.f281, (.tup (.v (.sl tyCommand)) (.tup (.v (.fn 252 (.pair tyProgram .nil))) .unit)), (.tup (.v (.int .i64)) .unit), [], [], [(0, ⟨[(0, (.v (.sl tyCommand))), (1, (.v (.fn 252 (.pair tyProgram .nil)))), (7, (.v (.int .i64))), (8, (.v (.int .i64)))], [(.ret, [(4, (.v (.int .i64)))]), (.exit 0, [])], []⟩)], [], [], none⟩
noncomputable def h_slices_ContainsFunc_Command_by_GoodProgram_1 : FnH := ⟨251, Tryz.f251, (.tup (.v (.sl tyCommand)) (.tup (.v (.fn 252 (.pair tyProgram .nil))) .unit)), (.tup (.v .bool) .unit), [], [], [], [], [], none⟩
noncomputable def h_impl_GoodProgram : FnH := ⟨196, Tryz.f196, (.tup (.v tyProgram) .unit), (.tup (.v .bool) .unit), [], [], [], [], [], none⟩
noncomputable def h_impl_isSmall : FnH := ⟨126, Tryz.f126, (.tup (.v tyProgram) .unit), (.tup (.v .bool) .unit), [], [], [], [], [], none⟩
noncomputable def h_impl_operandsOfSaid : FnH := ⟨98, Tryz.f98, (.tup (.v (.int .i64)) .unit), (.tup (.v (.int .i64)) .unit), [], [], [], [], [], none⟩
noncomputable def h_impl_isSaid : FnH := ⟨254, Tryz.f254, (.tup (.v tySaid) .unit), (.tup (.v .bool) .unit), [], [], [], [], [], none⟩
noncomputable def h_impl_GoodSaid : FnH := ⟨197, Tryz.f197, (.tup (.v (.sl tySaid)) .unit), (.tup (.v .bool) .unit), [], [], [(0, ⟨[(3, (.v (.int .i64))), (15, (.v (.sl tySaid))), (16, (.v (.int .i64))), (17, (.v (.int .i64)))], [(.ret, [(2, (.v .bool))]), (.exit 0, [(3, (.v (.int .i64)))])], []⟩)], [], [], none⟩
noncomputable def h_slices_Clone_int : FnH := ⟨187, Tryz.f187, (.tup (.v (.sl (.int .i64))) .unit), (.tup (.own 206912 (.int .i64) true) .unit), [], [], [], [], [], none⟩
noncomputable def h_impl_operandIndexes : FnH := ⟨233, Tryz.f233, (.tup (.v (.sl tySaid)) .unit), (.tup (.own 206914 (.sl (.int .i64)) true) .unit), [], [], [(0, ⟨[(3, (.own 206910 (.sl (.int .i64)) true)), (4, (.own 206911 (.int .i64) true)), (10, (.v (.sl tySaid))), (11, (.v (.int .i64))), (12, (.v (.int .i64)))], [(.exit 0, [(3, (.own 206913 (.sl (.int .i64)) true))])], []⟩)], [], [], none⟩
noncomputable def h_slices_Sort_int : FnH := sortH 219 Tryz.f219 206917
noncomputable def h_slices_Compact_int : FnH := compactH 220 Tryz.f220 206918 206919
noncomputable def h_impl_tracked : FnH := ⟨189, Tryz.f189, (.tup (.v (.sl tySaid)) .unit), (.tup (.own 206920 (.int .i64) true) .unit), [], [], [(0, ⟨[(3, (.own 206915 (.int .i64) true)), (4, (.v (.sl (.sl (.int .i64))))), (13, (.v (.sl tySaid))), (14, (.v (.int .i64))), (15, (.v (.int .i64)))], [(.exit 0, [(3, (.own 206916 (.int .i64) true))])], []⟩)], [], [], none⟩
noncomputable def h_impl_isTracked : FnH := ⟨127, Tryz.f127, (.tup (.v (.sl tySaid)) .unit), (.tup (.v .bool) .unit), [], [], [], [], [], none⟩
noncomputable def h_impl_GoodQuestion_1 : FnH := ⟨129, Tryz.f129, (.tup (.v (.sl tyNode)) (.tup (.sp tyQuestion) .unit)), (.tup (.v .bool) .unit), [], [], [], [], [], none⟩
noncomputable def h_slices_IndexFunc_Node_by_GoodQuestion_1 : FnH := ⟨198, Tryz.f198, (.tup (.v (.sl (.sl tyNode))) (.tup (.v (.fn 129 (.pair tyQuestion .nil))) .unit)), (.tup (.v (.int .i64)) .unit), [], [], [(0, ⟨[(0, (.v (.sl (.sl tyNode)))), (1, (.v (.fn 129 (.pair tyQuestion .nil)))), (7, (.v (.int .i64))), (8, (.v (.int .i64)))], [(.ret, [(4, (.v (.int .i64)))]), (.exit 0, [])], []⟩)], [], [], none⟩
noncomputable def h_slices_ContainsFunc_Node_by_GoodQuestion_1 : FnH := ⟨128, Tryz.f128, (.tup (.v (.sl (.sl tyNode))) (.tup (.v (.fn 129 (.pair tyQuestion .nil))) .unit)), (.tup (.v .bool) .unit), [], [], [], [], [], none⟩
noncomputable def h_impl_GoodQuestion : FnH := ⟨70, Tryz.f70, (.tup (.v tyQuestion) .unit), (.tup (.v .bool) .unit), [], [], [], [], [], none⟩
noncomputable def h_impl_Program_states : FnH := ⟨89, Tryz.f89, (.tup (.v tyProgram) .unit), (.tup (.v (.int .i64)) .unit), [], [], [], [], [], none⟩
noncomputable def h_slices_Grow_int : FnH := ⟨92, Tryz.f92, (.tup (.nl (.int .i64)) (.tup (.v (.int .i64)) .unit)), (.tup (.own 206921 (.int .i64) true) .unit), [], [], [], [], [], none⟩
noncomputable def h_slices_Concat_int : FnH := ⟨42, Tryz.f42, (.tup (.v (.sl (.sl (.int .i64)))) .unit), (.tup (.own 206924 (.int .i64) true) .unit), [], [], [(0, ⟨[(0, (.v (.sl (.sl (.int .i64))))), (3, (.v (.int .i64))), (9, (.v (.sl (.sl (.int .i64))))), (10, (.v (.int .i64))), (11, (.v (.int .i64)))], [(.exit 0, [(3, (.v (.int .i64)))])], [0]⟩), (2, ⟨[(6, (.own 206922 (.int .i64) true)), (25, (.v (.sl (.sl (.int .i64))))), (26, (.v (.int .i64))), (27, (.v (.int .i64)))], [(.exit 2, [(6, (.own 206923 (.int .i64) true))])], []⟩)], [], [], none⟩
noncomputable def h_impl_Question_areStates_1 : FnH := ⟨91, Tryz.f91, (.tup (.v (.int .i64)) (.tup (.sp (.int .i64)) .unit)), (.tup (.v .bool) .unit), [], [], [], [], [], none⟩
noncomputable def h_slices_IndexFunc_int_by_Question_areStates_1 : FnH := ⟨147, Tryz.f147, (.tup (.v (.sl (.int .i64))) (.tup (.v (.fn 91 (.pair (.int .i64) .nil))) .unit)), (.tup (.v (.int .i64)) .unit), [], [], [(0, ⟨[(0, (.v (.sl (.int .i64)))), (1, (.v (.fn 91 (.pair (.int .i64) .nil)))), (7, (.v (.int .i64))), (8, (.v (.int .i64)))], [(.ret, [(4, (.v (.int .i64)))]), (.exit 0, [])], []⟩)], [], [], none⟩
noncomputable def h_slices_ContainsFunc_int_by_Question_areStates_1 : FnH := ⟨90, Tryz.f90, (.tup (.v (.sl (.int .i64))) (.tup (.v (.fn 91 (.pair (.int .i64) .nil))) .unit)), (.tup (.v .bool) .unit), [], [(7, 10109)], [], [], [], none⟩
noncomputable def h_impl_Question_areStates : FnH := ⟨41, Tryz.f41, (.tup (.v tyQuestion) (.tup (.v (.sl (.int .i64))) (.tup (.v (.sl (.int .i64))) .unit))), (.tup (.v .bool) .unit), [], [(34, 10108)], [], [], [], none⟩
noncomputable def h_impl_Program_stateOf : FnH := ⟨44, Tryz.f44, (.tup (.v tyProgram) (.tup (.v (.int .i64)) .unit)), (.tup (.own 206927 (.int .u64) true) .unit), [], [], [(0, ⟨[(1, (.v (.int .i64))), (2, (.sp tyProgram)), (5, (.own 206925 (.int .u64) true)), (9, (.v (.int .i64))), (10, (.v (.int .i64)))], [(.exit 0, [(5, (.own 206926 (.int .u64) true))])], []⟩)], [], [], none⟩
noncomputable def h_impl_areWords : FnH := ⟨270, Tryz.f270, (.tup (.v (.int .i64)) (.tup (.v (.int .u64)) (.tup (.v (.int .u64)) .unit))), (.tup (.v .bool) .unit), [], [], [], [], [], none⟩
noncomputable def h_bits_Div64 : FnH := ⟨271, Tryz.f271, (.tup (.v (.int .u64)) (.tup (.v (.int .u64)) (.tup (.v (.int .u64)) .unit))), (.tup (.v (.int .u64)) (.tup (.v (.int .u64)) .unit)), [], [], [], [], [], none⟩
noncomputable def h_impl_DivWord : FnH := ⟨213, Tryz.f213, (.tup (.v (.int .i64)) (.tup (.v (.int .u64)) (.tup (.v (.int .u64)) .unit))), (.tup (.v (.int .u64)) (.tup (.v (.int .u64)) (.tup (.v .bool) .unit))), [], [], [], [], [], none⟩
noncomputable def h_impl_shift : FnH := ⟨214, Tryz.f214, (.tup (.v (.int .i64)) (.tup (.v (.int .u64)) (.tup (.v (.int .u64)) (.tup (.v .bool) .unit)))), (.tup (.v (.int .u64)) .unit), [], [], [], [], [], none⟩
noncomputable def h_impl_truth : FnH := ⟨215, Tryz.f215, (.tup (.v .bool) .unit), (.tup (.v (.int .u64)) .unit), [], [], [], [], [], none⟩
noncomputable def h_impl_signed : FnH := ⟨216, Tryz.f216, (.tup (.v (.int .i64)) (.tup (.v (.int .u64)) .unit)), (.tup (.v (.int .i64)) .unit), [], [], [], [], [], none⟩
noncomputable def h_impl_apply : FnH := ⟨148, Tryz.f148, (.tup (.v (.int .i64)) (.tup (.v (.int .i64)) (.tup (.v (.int .u64)) (.tup (.v (.int .u64)) .unit)))), (.tup (.v (.int .u64)) .unit), [], [], [], [], [], none⟩
noncomputable def h_impl_valueOf : FnH := ⟨93, Tryz.f93, (.tup (.v (.int .i64)) (.tup (.v (.sl tyNode)) (.tup (.v (.sl (.int .u64))) .unit))), (.tup (.v (.int .u64)) .unit), [], [], [(0, ⟨[(0, (.v (.int .i64))), (2, (.v (.sl (.int .u64)))), (7, (.own 206928 (.int .u64) true)), (12, (.v (.sl tyNode))), (13, (.v (.int .i64))), (14, (.v (.int .i64)))], [(.exit 0, [(7, (.own 206929 (.int .u64) true))])], []⟩)], [], [], none⟩
noncomputable def h_impl_Program_holds : FnH := ⟨43, Tryz.f43, (.tup (.v tyProgram) (.tup (.v (.sl tyNode)) (.tup (.v (.sl (.int .u64))) .unit))), (.tup (.v .bool) .unit), [], [], [], [], [], none⟩
noncomputable def h_slices_Clone_uint64 : FnH := ⟨272, Tryz.f272, (.tup (.v (.sl (.int .u64))) .unit), (.tup (.own 206932 (.int .u64) true) .unit), [], [], [], [], [], none⟩
noncomputable def h_impl_Program_after : FnH := ⟨218, Tryz.f218, (.tup (.v tyProgram) (.tup (.v tyCommand) (.tup (.v (.sl (.int .u64))) .unit))), (.tup (.own 206934 (.int .u64) true) .unit), [], [], [(0, ⟨[(2, (.v (.sl (.int .u64)))), (3, (.sp tyProgram)), (7, (.own 206933 (.int .u64) true)), (13, (.v (.sl tyChange))), (14, (.v (.int .i64))), (15, (.v (.int .i64)))], [(.exit 0, [(1206933, (.own 206933 (.int .u64) true))])], [7]⟩)], [], [], none⟩
noncomputable def h_impl_Program_stateNo : FnH := ⟨217, Tryz.f217, (.tup (.v tyProgram) (.tup (.v (.sl (.int .u64))) .unit)), (.tup (.v (.int .i64)) .unit), [], [], [(0, ⟨[(2, (.sp tyProgram)), (5, (.v (.int .i64))), (8, (.v (.sl (.int .u64)))), (9, (.v (.int .i64))), (10, (.v (.int .i64)))], [(.exit 0, [(5, (.v (.int .i64)))])], []⟩)], [], [], none⟩
noncomputable def h_impl_Program_nextOf : FnH := ⟨149, Tryz.f149, (.tup (.v tyProgram) (.tup (.v (.int .i64)) .unit)), (.tup (.own 206936 (.int .i64) true) .unit), [], [], [(0, ⟨[(1, (.v (.int .i64))), (2, (.sp tyProgram)), (5, (.v (.sl (.int .u64)))), (6, (.own 206931 (.int .i64) true)), (14, (.v (.sl tyCommand))), (15, (.v (.int .i64))), (16, (.v (.int .i64)))], [(.exit 0, [(6, (.own 206935 (.int .i64) true))])], [1]⟩)], [], [], none⟩
noncomputable def h_impl_Program_graph : FnH := ⟨95, Tryz.f95, (.tup (.v tyProgram) .unit), (.tup (.own 206938 (.sl (.int .i64)) true) .unit), [], [], [(0, ⟨[(1, (.sp tyProgram)), (3, (.own 206930 (.sl (.int .i64)) true)), (7, (.v (.int .i64))), (8, (.v (.int .i64)))], [(.exit 0, [(3, (.own 206937 (.sl (.int .i64)) true))])], []⟩)], [], [], none⟩
noncomputable def h_slices_Index_int : FnH := ⟨150, Tryz.f150, (.tup (.v (.sl (.int .i64))) (.tup (.v (.int .i64)) .unit)), (.tup (.v (.int .i64)) .unit), [], [], [(0, ⟨[(0, (.v (.sl (.int .i64)))), (1, (.v (.int .i64))), (7, (.v (.int .i64))), (8, (.v (.int .i64)))], [(.ret, [(4, (.v (.int .i64)))]), (.exit 0, [])], []⟩)], [], [], none⟩
noncomputable def h_slices_Contains_int : FnH := ⟨96, Tryz.f96, (.tup (.v (.sl (.int .i64))) (.tup (.v (.int .i64)) .unit)), (.tup (.v .bool) .unit), [], [], [], [], [], none⟩
noncomputable def h_impl_Question_isRun : FnH := ⟨45, Tryz.f45, (.tup (.v tyQuestion) (.tup (.v (.sl (.int .i64))) (.tup (.v (.sl (.int .i64))) .unit))), (.tup (.v .bool) .unit), [], [], [(0, ⟨[(3, (.sp tyQuestion)), (7, (.v (.sl (.int .i64)))), (8, (.v (.sl (.sl (.int .i64))))), (9, (.v (.int .i64)))], [(.ret, [(6, (.v .bool))]), (.exit 0, [])], [3, 7]⟩)], [], [], none⟩
noncomputable def h_impl_Question_letterOf : FnH := ⟨97, Tryz.f97, (.tup (.v tyQuestion) (.tup (.v (.int .i64)) .unit)), (.tup (.v (.int .i64)) .unit), [], [], [(0, ⟨[(2, (.sp tyQuestion)), (5, (.v (.sl (.int .u64)))), (6, (.v (.int .i64))), (14, (.v (.sl (.sl tyNode)))), (15, (.v (.int .i64))), (16, (.v (.int .i64)))], [(.exit 0, [(6, (.v (.int .i64)))])], []⟩)], [], [], none⟩
noncomputable def h_impl_Question_letters : FnH := ⟨46, Tryz.f46, (.tup (.v tyQuestion) (.tup (.v (.sl (.int .i64))) .unit)), (.tup (.own 206941 (.int .i64) true) .unit), [], [], [(0, ⟨[(2, (.sp tyQuestion)), (5, (.own 206939 (.int .i64) true)), (9, (.v (.sl (.int .i64)))), (10, (.v (.int .i64))), (11, (.v (.int .i64)))], [(.exit 0, [(5, (.own 206940 (.int .i64) true))])], []⟩)], [], [], none⟩
noncomputable def h_bits_Mul64 : FnH := ⟨230, Tryz.f230, (.tup (.v (.int .u64)) (.tup (.v (.int .u64)) .unit)), (.tup (.v (.int .u64)) (.tup (.v (.int .u64)) .unit)), [], [], [], [], [], none⟩
noncomputable def h_bits_Mul : FnH := ⟨172, Tryz.f172, (.tup (.v (.int .u64)) (.tup (.v (.int .u64)) .unit)), (.tup (.v (.int .u64)) (.tup (.v (.int .u64)) .unit)), [], [], [], [], [], none⟩
noncomputable def h_slices_Repeat_bool : FnH := ⟨221, Tryz.f221, (.tup (.v (.sl .bool)) (.tup (.v (.int .i64)) .unit)), (.tup (.own 206944 .bool true) .unit), [], [], [(0, ⟨[(7, (.own 206943 .bool true)), (8, (.v (.int .i64)))], [(.exit 0, [(1206943, (.own 206943 .bool true))])], [7]⟩)], [], [], none⟩
noncomputable def h_impl_Lasso_nextPlace : FnH := ⟨157, Tryz.f157, (.tup (.v tyLasso) (.tup (.v (.int .i64)) .unit)), (.tup (.v (.int .i64)) .unit), [], [], [], [], [], none⟩
noncomputable def h_impl_Lasso_holdsAlong_2 : FnH := ⟨152, Tryz.f152, (.tup (.v (.int .i64)) (.tup (.sp (.sl (.sl .bool))) .unit)), (.tup (.v .bool) .unit), [], [], [], [], [], none⟩
noncomputable def h_impl_Lasso_holdsAlong_1 : FnH := ⟨151, Tryz.f151, (.tup (.v (.int .i64)) (.tup (.sp (.sl (.sl .bool))) .unit)), (.tup (.v .bool) .unit), [], [], [], [], [], none⟩
noncomputable def h_impl_Lasso_holdsAlong_3 : FnH := ⟨154, Tryz.f154, (.tup (.v (.int .i64)) (.tup (.v .bool) (.tup (.sp (.fn 152 (.pair (.sl (.sl .bool)) .nil))) (.tup (.sp (.fn 151 (.pair (.sl (.sl .bool)) .nil))) .unit)))), (.tup (.v .bool) .unit), [], [], [], [], [], none⟩
noncomputable def h_impl_Lasso_fixed_by_Lasso_holdsAlong_3 : FnH := ⟨153, Tryz.f153, (.tup (.v tyLasso) (.tup (.v .bool) (.tup (.v (.fn 154 (.pair (.fn 152 (.pair (.sl (.sl .bool)) .nil)) (.pair (.fn 151 (.pair (.sl (.sl .bool)) .nil)) .nil)))) .unit))), (.tup (.own 206950 .bool true) .unit), [], [], [(0, ⟨[(3, (.sp tyLasso)), (5, (.sp (.fn 154 (.pair (.fn 152 (.pair (.sl (.sl .bool)) .nil)) (.pair (.fn 151 (.pair (.sl (.sl .bool)) .nil)) .nil))))), (6, (.v (.sl .bool))), (7, (.box 206948 (.own 206949 .bool true))), (19, (.v (.int .i64)))], [(.exit 0, [(2206948, (.box 206948 (.own 206949 .bool true)))])], [7]⟩), (2, ⟨[(3, (.sp tyLasso)), (5, (.sp (.fn 154 (.pair (.fn 152 (.pair (.sl (.sl .bool)) .nil)) (.pair (.fn 151 (.pair (.sl (.sl .bool)) .nil)) .nil))))), (7, (.box 206946 (.own 206947 .bool true))), (22, (.clo 275 (.tup (.box 206945 (.ref 206947)) .unit))), (23, (.v (.int .i64)))], [(.normal, [(2206946, (.box 206946 (.own 206947 .bool true)))])], [3, 5, 6, 7, 19]⟩)], [], [], none⟩
noncomputable def h_impl_Lasso_holdsAlong_4 : FnH := ⟨155, Tryz.f155, (.tup (.v (.int .i64)) (.tup (.v .bool) (.tup (.sp (.fn 152 (.pair (.sl (.sl .bool)) .nil))) (.tup (.sp (.fn 151 (.pair (.sl (.sl .bool)) .nil))) .unit)))), (.tup (.v .bool) .unit), [], [], [], [], [], none⟩
noncomputable def h_impl_Lasso_fixed_by_Lasso_holdsAlong_4 : FnH := ⟨153, Tryz.f153, (.tup (.v tyLasso) (.tup (.v .bool) (.tup (.v (.fn 155 (.pair (.fn 152 (.pair (.sl (.sl .bool)) .nil)) (.pair (.fn 151 (.pair (.sl (.sl .bool)) .nil)) .nil)))) .unit))), (.tup (.own 206957 .bool true) .unit), [], [], [(0, ⟨[(3, (.sp tyLasso)), (5, (.sp (.fn 155 (.pair (.fn 152 (.pair (.sl (.sl .bool)) .nil)) (.pair (.fn 151 (.pair (.sl (.sl .bool)) .nil)) .nil))))), (6, (.v (.sl .bool))), (7, (.box 206955 (.own 206956 .bool true))), (19, (.v (.int .i64)))], [(.exit 0, [(2206955, (.box 206955 (.own 206956 .bool true)))])], [7]⟩), (2, ⟨[(3, (.sp tyLasso)), (5, (.sp (.fn 155 (.pair (.fn 152 (.pair (.sl (.sl .bool)) .nil)) (.pair (.fn 151 (.pair (.sl (.sl .bool)) .nil)) .nil))))), (7, (.box 206953 (.own 206954 .bool true))), (22, (.clo 275 (.tup (.box 206952 (.ref 206954)) .unit))), (23, (.v (.int .i64)))], [(.normal, [(2206953, (.box 206953 (.own 206954 .bool true)))])], [3, 5, 6, 7, 19]⟩)], [], [], none⟩
noncomputable def h_impl_Lasso_letterAt : FnH := ⟨156, Tryz.f156, (.tup (.v tyLasso) (.tup (.v (.int .i64)) .unit)), (.tup (.v (.int .i64)) .unit), [], [], [], [], [], none⟩
noncomputable def h_impl_Lasso_holdsAlong : FnH := ⟨99, Tryz.f99, (.tup (.v tyLasso) (.tup (.v tySaid) (.tup (.v (.sl (.sl .bool))) .unit))), (.tup (.own 206951 .bool true) .unit), [], [(25, 10141)], [(1, ⟨[(3, (.sp tyLasso)), (4, (.sp tySaid)), (7, (.sp (.fn 151 (.pair (.sl (.sl .bool)) .nil)))), (8, (.sp (.fn 152 (.pair (.sl (.sl .bool)) .nil)))), (9, (.own 206958 .bool true)), (33, (.v (.int .i64))), (34, (.v (.int .i64)))], [(.exit 1, [(9, (.own 206959 .bool true))])], []⟩)], [], [], none⟩
noncomputable def h_impl_Lasso_along : FnH := ⟨47, Tryz.f47, (.tup (.v tyLasso) (.tup (.v (.sl tySaid)) .unit)), (.tup (.v (.sl .bool)) .unit), [], [], [(0, ⟨[(2, (.sp tyLasso)), (5, (.own 206942 (.sl .bool) false)), (10, (.v (.sl tySaid))), (11, (.v (.int .i64))), (12, (.v (.int .i64)))], [(.exit 0, [(5, (.own 206960 (.sl .bool) false))])], []⟩)], [], [], none⟩
noncomputable def h_impl_CheckRun : FnH := ⟨10, Tryz.f10, (.tup (.v tyQuestion) (.tup (.v (.sl (.int .i64))) (.tup (.v (.sl (.int .i64))) .unit))), (.tup (.v (.int .i64)) (.tup (.v .bool) .unit)), [], [], [], [], [], none⟩
noncomputable def h_laws_eqNode : FnH := ⟨136, Tryz.f136, (.tup (.v tyNode) (.tup (.v tyNode) .unit)), (.tup (.v .bool) .unit), [], [], [], [], [], none⟩
noncomputable def h_laws_eqNodeS : FnH := ⟨74, Tryz.f74, (.tup (.v (.sl tyNode)) (.tup (.v (.sl tyNode)) .unit)), (.tup (.v .bool) .unit), [], [], [(0, ⟨[(0, (.v (.sl tyNode))), (1, (.v (.sl tyNode))), (5, (.v (.int .i64)))], [(.ret, [(4, (.v .bool))]), (.exit 0, [])], []⟩)], [], [], none⟩
noncomputable def h_laws_eqChange : FnH := ⟨276, Tryz.f276, (.tup (.v tyChange) (.tup (.v tyChange) .unit)), (.tup (.v .bool) .unit), [], [], [], [], [], none⟩
noncomputable def h_laws_eqChangeS : FnH := ⟨223, Tryz.f223, (.tup (.v (.sl tyChange)) (.tup (.v (.sl tyChange)) .unit)), (.tup (.v .bool) .unit), [], [], [(0, ⟨[(0, (.v (.sl tyChange))), (1, (.v (.sl tyChange))), (5, (.v (.int .i64)))], [(.ret, [(4, (.v .bool))]), (.exit 0, [])], []⟩)], [], [], none⟩
noncomputable def h_laws_eqCommand : FnH := ⟨158, Tryz.f158, (.tup (.v tyCommand) (.tup (.v tyCommand) .unit)), (.tup (.v .bool) .unit), [], [], [], [], [], none⟩
noncomputable def h_laws_eqCommandS : FnH := ⟨101, Tryz.f101, (.tup (.v (.sl tyCommand)) (.tup (.v (.sl tyCommand)) .unit)), (.tup (.v .bool) .unit), [], [], [(0, ⟨[(0, (.v (.sl tyCommand))), (1, (.v (.sl tyCommand))), (5, (.v (.int .i64)))], [(.ret, [(4, (.v .bool))]), (.exit 0, [])], []⟩)], [], [], none⟩
noncomputable def h_laws_eqProgram : FnH := ⟨48, Tryz.f48, (.tup (.v tyProgram) (.tup (.v tyProgram) .unit)), (.tup (.v .bool) .unit), [], [], [], [], [], none⟩
noncomputable def h_laws_eqNodeSS : FnH := ⟨27, Tryz.f27, (.tup (.v (.sl (.sl tyNode))) (.tup (.v (.sl (.sl tyNode))) .unit)), (.tup (.v .bool) .unit), [], [], [(0, ⟨[(0, (.v (.sl (.sl tyNode)))), (1, (.v (.sl (.sl tyNode)))), (5, (.v (.int .i64)))], [(.ret, [(4, (.v .bool))]), (.exit 0, [])], []⟩)], [], [], none⟩
noncomputable def h_laws_eqSaid : FnH := ⟨102, Tryz.f102, (.tup (.v tySaid) (.tup (.v tySaid) .unit)), (.tup (.v .bool) .unit), [], [], [], [], [], none⟩
noncomputable def h_laws_eqSaidS : FnH := ⟨49, Tryz.f49, (.tup (.v (.sl tySaid)) (.tup (.v (.sl tySaid)) .unit)), (.tup (.v .bool) .unit), [], [], [(0, ⟨[(0, (.v (.sl tySaid))), (1, (.v (.sl tySaid))), (5, (.v (.int .i64)))], [(.ret, [(4, (.v .bool))]), (.exit 0, [])], []⟩)], [], [], none⟩
noncomputable def h_laws_eqQuestion : FnH := ⟨11, Tryz.f11, (.tup (.v tyQuestion) (.tup (.v tyQuestion) .unit)), (.tup (.v .bool) .unit), [], [], [], [], [], none⟩
noncomputable def h_laws_eqIntS : FnH := ⟨12, Tryz.f12, (.tup (.v (.sl (.int .i64))) (.tup (.v (.sl (.int .i64))) .unit)), (.tup (.v .bool) .unit), [], [], [(0, ⟨[(0, (.v (.sl (.int .i64)))), (1, (.v (.sl (.int .i64)))), (5, (.v (.int .i64)))], [(.ret, [(4, (.v .bool))]), (.exit 0, [])], []⟩)], [], [], none⟩
noncomputable def h_laws_FnExactCheckRun : FnH := ⟨3, Tryz.f3, (.tup (.v tyQuestion) (.tup (.v (.sl (.int .i64))) (.tup (.v (.sl (.int .i64))) .unit))), (.tup (.v .bool) .unit), [], [], [], [], [], none⟩
def extsL : List (Nat × ExtF) := [(100, .clone 85), (222, .backward 275)]
def tysL : List (Nat × Ty) := [(2, (.int .i64)), (3, (.int .i64)), (4, .bool), (22, (.sl tyNode)), (23, (.sl tyCommand)), (25, tyProgram), (26, (.sl (.sl tyNode))), (27, (.sl tySaid)), (29, tyQuestion), (30, (.sl (.int .i64))), (34, (.sl tyNode)), (35, (.sl tyCommand)), (37, tyProgram), (38, (.sl (.sl tyNode))), (39, (.sl tySaid)), (41, tyQuestion), (77, tyLasso), (83, (.sl (.int .u64))), (85, (.sl .bool)), (98, (.sl (.sl (.int .i64)))), (115, (.sl (.sl .bool))), (120, tySaid), (122, tySaid), (126, (.int .u64)), (152, tyNode), (154, tyNode), (162, (.sl tyChange)), (164, tyCommand), (166, (.int .u64)), (172, (.sl tyChange)), (174, tyCommand), (226, tyChange), (272, tyChange)]
def nfsL : List (Nat × Nat) := [(25, 4), (29, 3), (37, 4), (41, 3), (77, 2), (120, 2), (122, 2), (152, 2), (154, 2), (164, 2), (174, 2), (226, 2), (272, 2)]
def cellsL : List Nat := [105, 180]
def mtysL : List (Nat × (Nat × Nat)) := []
noncomputable def keysL : List (Nat × FnH) := [(59, h_laws_szNodeS), (264, h_laws_szChange), (206, h_laws_szChangeS), (137, h_laws_szCommand), (77, h_laws_szCommandS), (31, h_laws_szProgram), (22, h_laws_szNodeSS), (32, h_laws_szSaidS), (6, h_laws_szQuestion), (125, h_laws_toNode), (69, h_laws_toNodeS), (269, h_laws_toChange), (212, h_laws_toChangeS), (146, h_laws_toCommand), (87, h_laws_toCommandS), (39, h_laws_toProgram), (24, h_laws_toNodeSS), (88, h_laws_toSaid), (40, h_laws_toSaidS), (8, h_laws_toQuestion), (9, h_laws_toIntS), (62, h_spec_l1In), (247, h_spec_l1Wide), (207, h_spec_l2Need), (208, h_spec_l1Cut), (280, h_spec_GoodWord), (248, h_spec_l2N), (194, h_spec_l2Kind), (119, h_spec_l7Asks), (244, h_spec_l7Command), (191, h_spec_GoodProgram), (117, h_spec_l7Small), (245, h_spec_l10Need), (246, h_spec_l10N), (192, h_spec_GoodSaid), (141, h_spec_l1Put), (193, h_spec_l13Tracked), (118, h_spec_l13Good), (60, h_spec_GoodQuestion), (79, h_spec_l7Many), (138, h_spec_l1All), (78, h_spec_l14States), (33, h_spec_l14Told), (81, h_spec_l7Of), (210, h_spec_l2From), (289, h_spec_l1Both), (265, h_spec_DivWord), (266, h_spec_l1Shift), (267, h_spec_l2Bool), (268, h_spec_l1Signed), (209, h_spec_l2Do), (139, h_spec_l2Value), (80, h_spec_l7Holds), (35, h_spec_l8Those), (34, h_spec_l1Has), (82, h_spec_l1Own), (140, h_spec_l7Enabled), (143, h_spec_l7Do), (142, h_spec_l7No), (83, h_spec_l8Next), (36, h_spec_l14IsRun), (86, h_spec_l14Letter), (38, h_spec_l14Word), (145, h_spec_l9At), (211, h_spec_l10From), (144, h_spec_l10Cell), (84, h_spec_l10Table), (85, h_spec_l10Fold), (37, h_spec_l10At), (7, h_spec_CheckRun), (249, h_impl_isWide), (250, h_impl_isVars), (282, h_impl_operandsOf), (94, h_impl_mask), (290, h_impl_GoodWord), (283, h_impl_isLeafRight), (284, h_impl_GoodTerm_1), (147, h_slices_IndexFunc_int_by_GoodTerm_1), (90, h_slices_ContainsFunc_int_by_GoodTerm_1), (255, h_impl_GoodTerm), (256, h_impl_kindOf), (199, h_impl_isTermOf), (130, h_impl_Program_isCondition), (253, h_impl_Program_isCommand), (252, h_impl_GoodProgram_1), (281, h_slices_IndexFunc_Command_by_GoodProgram_1), (251, h_slices_ContainsFunc_Command_by_GoodProgram_1), (196, h_impl_GoodProgram), (126, h_impl_isSmall), (98, h_impl_operandsOfSaid), (254, h_impl_isSaid), (197, h_impl_GoodSaid), (187, h_slices_Clone_int), (233, h_impl_operandIndexes), (219, h_slices_Sort_int), (220, h_slices_Compact_int), (189, h_impl_tracked), (127, h_impl_isTracked), (129, h_impl_GoodQuestion_1), (198, h_slices_IndexFunc_Node_by_GoodQuestion_1), (128, h_slices_ContainsFunc_Node_by_GoodQuestion_1), (70, h_impl_GoodQuestion), (89, h_impl_Program_states), (92, h_slices_Grow_int), (42, h_slices_Concat_int), (91, h_impl_Question_areStates_1), (10109, h_slices_IndexFunc_int_by_Question_areStates_1), (10108, h_slices_ContainsFunc_int_by_Question_areStates_1), (41, h_impl_Question_areStates), (44, h_impl_Program_stateOf), (270, h_impl_areWords), (271, h_bits_Div64), (213, h_impl_DivWord), (214, h_impl_shift), (215, h_impl_truth), (216, h_impl_signed), (148, h_impl_apply), (93, h_impl_valueOf), (43, h_impl_Program_holds), (272, h_slices_Clone_uint64), (218, h_impl_Program_after), (217, h_impl_Program_stateNo), (149, h_impl_Program_nextOf), (95, h_impl_Program_graph), (150, h_slices_Index_int), (96, h_slices_Contains_int), (45, h_impl_Question_isRun), (97, h_impl_Question_letterOf), (46, h_impl_Question_letters), (230, h_bits_Mul64), (172, h_bits_Mul), (221, h_slices_Repeat_bool), (157, h_impl_Lasso_nextPlace), (152, h_impl_Lasso_holdsAlong_2), (151, h_impl_Lasso_holdsAlong_1), (154, h_impl_Lasso_holdsAlong_3), (153, h_impl_Lasso_fixed_by_Lasso_holdsAlong_3), (155, h_impl_Lasso_holdsAlong_4), (10141, h_impl_Lasso_fixed_by_Lasso_holdsAlong_4), (156, h_impl_Lasso_letterAt), (99, h_impl_Lasso_holdsAlong), (47, h_impl_Lasso_along), (10, h_impl_CheckRun), (136, h_laws_eqNode), (74, h_laws_eqNodeS), (276, h_laws_eqChange), (223, h_laws_eqChangeS), (158, h_laws_eqCommand), (101, h_laws_eqCommandS), (48, h_laws_eqProgram), (27, h_laws_eqNodeSS), (102, h_laws_eqSaid), (49, h_laws_eqSaidS), (11, h_laws_eqQuestion), (12, h_laws_eqIntS), (3, h_laws_FnExactCheckRun)]
def itersL : List (Nat × Nat) := [(275, 4)]
noncomputable def H : Hints := { extF := fun f => lookupN extsL f, ty := fun T => lookupN tysL T, nf := fun T => match lookupN nfsL T with | some n => n | none => 0, cell := fun T => hasN cellsL T, key := fun k => lookupN keysL k, mty := fun T => lookupN mtysL T, iter := fun f => lookupN itersL f }
noncomputable def laws_szNodeS (a : Bool × List DNode) (left_ : Int) : Option Int := (inf H).call 59 (a, left_)
noncomputable def laws_szChange (a : DChange) (left_ : Int) : Option Int := (inf H).call 264 (a, left_)
noncomputable def laws_szChangeS (a : Bool × List DChange) (left_ : Int) : Option Int := (inf H).call 206 (a, left_)
theorem key_laws_szChangeS : H.key 206 = some h_laws_szChangeS := by kernel_rfl
noncomputable def laws_szChangeS_L0 (a : Bool × List DChange) (left_ : Int) (i : Int) : Option (Int ⊕ Int) := (inf H).loop 206 0 (loopCode Tryz.f206 0) (a, (left_, i))
noncomputable def laws_szCommand (a : DCommand) (left_ : Int) : Option Int := (inf H).call 137 (a, left_)
noncomputable def laws_szCommandS (a : Bool × List DCommand) (left_ : Int) : Option Int := (inf H).call 77 (a, left_)
theorem key_laws_szCommandS : H.key 77 = some h_laws_szCommandS := by kernel_rfl
noncomputable def laws_szCommandS_L0 (a : Bool × List DCommand) (left_ : Int) (i : Int) : Option (Int ⊕ Int) := (inf H).loop 77 0 (loopCode Tryz.f77 0) (a, (left_, i))
noncomputable def laws_szProgram (a : DProgram) (left_ : Int) : Option Int := (inf H).call 31 (a, left_)
noncomputable def laws_szNodeSS (a : Bool × List (Bool × List DNode)) (left_ : Int) : Option Int := (inf H).call 22 (a, left_)
theorem key_laws_szNodeSS : H.key 22 = some h_laws_szNodeSS := by kernel_rfl
noncomputable def laws_szNodeSS_L0 (a : Bool × List (Bool × List DNode)) (left_ : Int) (i : Int) : Option (Int ⊕ Int) := (inf H).loop 22 0 (loopCode Tryz.f22 0) (a, (left_, i))
noncomputable def laws_szSaidS (a : Bool × List DSaid) (left_ : Int) : Option Int := (inf H).call 32 (a, left_)
noncomputable def laws_szQuestion (a : DQuestion) (left_ : Int) : Option Int := (inf H).call 6 (a, left_)
noncomputable def laws_toNode (a : DNode) : Option DNode := (inf H).call 125 a
noncomputable def laws_toNodeS (a : Bool × List DNode) : Option (Bool × List DNode) := (inf H).call 69 a
theorem key_laws_toNodeS : H.key 69 = some h_laws_toNodeS := by kernel_rfl
noncomputable def laws_toNodeS_L0 (a : Bool × List DNode) (out : Bool × List DNode) (i : Int) : Option (Bool × List DNode) := (inf H).loop 69 0 (loopCode Tryz.f69 0) (a, (out, i))
noncomputable def laws_toChange (a : DChange) : Option DChange := (inf H).call 269 a
noncomputable def laws_toChangeS (a : Bool × List DChange) : Option (Bool × List DChange) := (inf H).call 212 a
theorem key_laws_toChangeS : H.key 212 = some h_laws_toChangeS := by kernel_rfl
noncomputable def laws_toChangeS_L0 (a : Bool × List DChange) (out : Bool × List DChange) (i : Int) : Option (Bool × List DChange) := (inf H).loop 212 0 (loopCode Tryz.f212 0) (a, (out, i))
noncomputable def laws_toCommand (a : DCommand) : Option DCommand := (inf H).call 146 a
noncomputable def laws_toCommandS (a : Bool × List DCommand) : Option (Bool × List DCommand) := (inf H).call 87 a
theorem key_laws_toCommandS : H.key 87 = some h_laws_toCommandS := by kernel_rfl
noncomputable def laws_toCommandS_L0 (a : Bool × List DCommand) (out : Bool × List DCommand) (i : Int) : Option (Bool × List DCommand) := (inf H).loop 87 0 (loopCode Tryz.f87 0) (a, (out, i))
noncomputable def laws_toProgram (a : DProgram) : Option DProgram := (inf H).call 39 a
noncomputable def laws_toNodeSS (a : Bool × List (Bool × List DNode)) : Option (Bool × List (Bool × List DNode)) := (inf H).call 24 a
theorem key_laws_toNodeSS : H.key 24 = some h_laws_toNodeSS := by kernel_rfl
noncomputable def laws_toNodeSS_L0 (a : Bool × List (Bool × List DNode)) (out : Bool × List (Bool × List DNode)) (i : Int) : Option (Bool × List (Bool × List DNode)) := (inf H).loop 24 0 (loopCode Tryz.f24 0) (a, (out, i))
noncomputable def laws_toSaid (a : DSaid) : Option DSaid := (inf H).call 88 a
noncomputable def laws_toSaidS (a : Bool × List DSaid) : Option (Bool × List DSaid) := (inf H).call 40 a
theorem key_laws_toSaidS : H.key 40 = some h_laws_toSaidS := by kernel_rfl
noncomputable def laws_toSaidS_L0 (a : Bool × List DSaid) (out : Bool × List DSaid) (i : Int) : Option (Bool × List DSaid) := (inf H).loop 40 0 (loopCode Tryz.f40 0) (a, (out, i))
noncomputable def laws_toQuestion (a : DQuestion) : Option (Int × Int × (Bool × List DNode) × (Bool × List DCommand) × (Bool × List (Bool × List DNode)) × Bool × List DSaid) := (inf H).call 8 a
noncomputable def laws_toIntS (a : Bool × List Int) : Option (Bool × List Int) := (inf H).call 9 a
theorem key_laws_toIntS : H.key 9 = some h_laws_toIntS := by kernel_rfl
noncomputable def laws_toIntS_L0 (a : Bool × List Int) (out : Bool × List Int) (i : Int) : Option (Bool × List Int) := (inf H).loop 9 0 (loopCode Tryz.f9 0) (a, (out, i))
noncomputable def spec_l1In (n : Int) (lo : Int) (hi : Int) : Option Bool := (inf H).call 62 (n, (lo, hi))
noncomputable def spec_l1Wide (wide : Int) : Option Bool := (inf H).call 247 wide
noncomputable def spec_l2Need (op : Int) : Option DEdge := (inf H).call 207 op
noncomputable def spec_l1Cut (wide : Int) (a : Int) : Option Int := (inf H).call 208 (wide, a)
theorem key_spec_l1Cut : H.key 208 = some h_spec_l1Cut := by kernel_rfl
noncomputable def spec_l1Cut_L0 (wide : Int) (a : Int) (out : Int) (k_ : Int) : Option Int := (inf H).loop 208 0 (loopCode Tryz.f208 0) (wide, (a, (out, k_)))
noncomputable def spec_GoodWord (wide : Int) (a : Int) : Option Bool := (inf H).call 280 (wide, a)
noncomputable def spec_l2N (wide : Int) (vars : Int) (n : DNode) : Option Bool := (inf H).call 248 (wide, (vars, n))
noncomputable def spec_l2Kind (wide : Int) (vars : Int) (t : Bool × List DNode) : Option Int := (inf H).call 194 (wide, (vars, t))
theorem key_spec_l2Kind : H.key 194 = some h_spec_l2Kind := by kernel_rfl
noncomputable def spec_l2Kind_L0 (wide : Int) (vars : Int) (pile : Bool × List Int) (t27 : Bool × List DNode) (t28 : Int) (t29 : Int) : Option (Int ⊕ (Bool × List Int)) := (inf H).loop 194 0 (loopCode Tryz.f194 0) (wide, (vars, (pile, (t27, (t28, t29)))))
noncomputable def spec_l2Kind_L2 (wide : Int) (vars : Int) (pile : Bool × List Int) (many : Int) (part : Int) (own : Int) (t27 : Bool × List DNode) (t28 : Int) (t29 : Int) : Option (Int ⊕ (Bool × List Int)) := (inf H).loop 194 2 (loopCode Tryz.f194 2) (wide, (vars, (pile, (many, (part, (own, (t27, (t28, t29))))))))
noncomputable def spec_l7Asks (p : DProgram) (t : Bool × List DNode) : Option Bool := (inf H).call 119 (p, t)
noncomputable def spec_l7Command (p : DProgram) (c : DCommand) : Option Bool := (inf H).call 244 (p, c)
theorem key_spec_l7Command : H.key 244 = some h_spec_l7Command := by kernel_rfl
noncomputable def spec_l7Command_L0 (p : DProgram) (c : DCommand) (t21 : Bool × List DChange) (t22 : Int) (t23 : Int) : Option (Bool ⊕ Unit) := (inf H).loop 244 0 (loopCode Tryz.f244 0) (p, (c, (t21, (t22, t23))))
noncomputable def spec_GoodProgram (p : DProgram) : Option Bool := (inf H).call 191 p
theorem key_spec_GoodProgram : H.key 191 = some h_spec_GoodProgram := by kernel_rfl
noncomputable def spec_GoodProgram_L0 (p : DProgram) (t18 : Bool × List DCommand) (t19 : Int) (t20 : Int) : Option (Bool ⊕ Unit) := (inf H).loop 191 0 (loopCode Tryz.f191 0) (p, (t18, (t19, t20)))
noncomputable def spec_l7Small (p : DProgram) : Option Bool := (inf H).call 117 p
noncomputable def spec_l10Need (op : Int) : Option Int := (inf H).call 245 op
noncomputable def spec_l10N (n : DSaid) : Option Bool := (inf H).call 246 n
noncomputable def spec_GoodSaid (f : Bool × List DSaid) : Option Bool := (inf H).call 192 f
theorem key_spec_GoodSaid : H.key 192 = some h_spec_GoodSaid := by kernel_rfl
noncomputable def spec_GoodSaid_L0 (pile : Int) (t11 : Bool × List DSaid) (t12 : Int) (t13 : Int) : Option (Bool ⊕ Int) := (inf H).loop 192 0 (loopCode Tryz.f192 0) (pile, (t11, (t12, t13)))
noncomputable def spec_l1Put (l : Bool × List Int) (n : Int) : Option (Bool × List Int) := (inf H).call 141 (l, n)
theorem key_spec_l1Put : H.key 141 = some h_spec_l1Put := by kernel_rfl
noncomputable def spec_l1Put_L0 (l : Bool × List Int) (n : Int) (k_ : Int) : Option Int := (inf H).loop 141 0 (loopCode Tryz.f141 0) (l, (n, k_))
noncomputable def spec_l13Tracked (f : Bool × List DSaid) : Option (Bool × List Int) := (inf H).call 193 f
theorem key_spec_l13Tracked : H.key 193 = some h_spec_l13Tracked := by kernel_rfl
noncomputable def spec_l13Tracked_L0 (out : Bool × List Int) (t10 : Bool × List DSaid) (t11 : Int) (t12 : Int) : Option (Bool × List Int) := (inf H).loop 193 0 (loopCode Tryz.f193 0) (out, (t10, (t11, t12)))
noncomputable def spec_l13Good (f : Bool × List DSaid) : Option Bool := (inf H).call 118 f
noncomputable def spec_GoodQuestion (q : DQuestion) : Option Bool := (inf H).call 60 q
theorem key_spec_GoodQuestion : H.key 60 = some h_spec_GoodQuestion := by kernel_rfl
noncomputable def spec_GoodQuestion_L0 (q : DQuestion) (t22 : Bool × List (Bool × List DNode)) (t23 : Int) (t24 : Int) : Option (Bool ⊕ Unit) := (inf H).loop 60 0 (loopCode Tryz.f60 0) (q, (t22, (t23, t24)))
noncomputable def spec_l7Many (p : DProgram) : Option Int := (inf H).call 79 p
noncomputable def spec_l1All (l : Bool × List Int) (lo : Int) (hi : Int) : Option Bool := (inf H).call 138 (l, (lo, hi))
theorem key_spec_l1All : H.key 138 = some h_spec_l1All := by kernel_rfl
noncomputable def spec_l1All_L0 (lo : Int) (hi : Int) (t9 : Bool × List Int) (t10 : Int) (t11 : Int) : Option (Bool ⊕ Unit) := (inf H).loop 138 0 (loopCode Tryz.f138 0) (lo, (hi, (t9, (t10, t11))))
noncomputable def spec_l14States (q : DQuestion) (l : Bool × List Int) : Option Bool := (inf H).call 78 (q, l)
noncomputable def spec_l14Told (q : DQuestion) (stem : Bool × List Int) (loop : Bool × List Int) : Option Bool := (inf H).call 33 (q, (stem, loop))
noncomputable def spec_l7Of (p : DProgram) (no : Int) : Option (Bool × List Int) := (inf H).call 81 (p, no)
theorem key_spec_l7Of : H.key 81 = some h_spec_l7Of := by kernel_rfl
noncomputable def spec_l7Of_L0 (no : Int) (p : DProgram) (out : Bool × List Int) (v : Int) : Option (Bool × List Int) := (inf H).loop 81 0 (loopCode Tryz.f81 0) (no, (p, (out, v)))
noncomputable def spec_l2From (t : Bool × List DNode) (k_ : Int) : Option Int := (inf H).call 210 (t, k_)
theorem key_spec_l2From : H.key 210 = some h_spec_l2From := by kernel_rfl
noncomputable def spec_l2From_L0 (t : Bool × List DNode) (many : Int) (from_ : Int) : Option Int := (inf H).loop 210 0 (loopCode Tryz.f210 0) (t, (many, from_))
noncomputable def spec_l1Both (wide : Int) (a : Int) (b : Int) : Option Bool := (inf H).call 289 (wide, (a, b))
noncomputable def spec_DivWord (wide : Int) (a : Int) (b : Int) : Option (Int × Int × Bool) := (inf H).call 265 (wide, (a, b))
noncomputable def spec_l1Shift (wide : Int) (a : Int) (by_ : Int) (left_ : Bool) : Option Int := (inf H).call 266 (wide, (a, (by_, left_)))
theorem key_spec_l1Shift : H.key 266 = some h_spec_l1Shift := by kernel_rfl
noncomputable def spec_l1Shift_L0 (wide : Int) (a : Int) (by_ : Int) (left_ : Bool) : Option Int := (inf H).loop 266 0 (loopCode Tryz.f266 0) (wide, (a, (by_, left_)))
noncomputable def spec_l2Bool (is : Bool) : Option Int := (inf H).call 267 is
noncomputable def spec_l1Signed (wide : Int) (a : Int) : Option Int := (inf H).call 268 (wide, a)
noncomputable def spec_l2Do (wide : Int) (op : Int) (a : Int) (b : Int) : Option Int := (inf H).call 209 (wide, (op, (a, b)))
noncomputable def spec_l2Value (wide : Int) (t : Bool × List DNode) (k_ : Int) (state : Bool × List Int) : Option Int := (inf H).call 139 (wide, (t, (k_, state)))
noncomputable def spec_l7Holds (p : DProgram) (t : Bool × List DNode) (s : Bool × List Int) : Option Bool := (inf H).call 80 (p, (t, s))
noncomputable def spec_l8Those (p : DProgram) (t : Bool × List DNode) : Option (Bool × List Int) := (inf H).call 35 (p, t)
theorem key_spec_l8Those : H.key 35 = some h_spec_l8Those := by kernel_rfl
noncomputable def spec_l8Those_L0 (t : Bool × List DNode) (p : DProgram) (out : Bool × List Int) (no : Int) : Option (Bool × List Int) := (inf H).loop 35 0 (loopCode Tryz.f35 0) (t, (p, (out, no)))
noncomputable def spec_l1Has (l : Bool × List Int) (n : Int) : Option Bool := (inf H).call 34 (l, n)
theorem key_spec_l1Has : H.key 34 = some h_spec_l1Has := by kernel_rfl
noncomputable def spec_l1Has_L0 (n : Int) (t7 : Bool × List Int) (t8 : Int) (t9 : Int) : Option (Bool ⊕ Unit) := (inf H).loop 34 0 (loopCode Tryz.f34 0) (n, (t7, (t8, t9)))
noncomputable def spec_l1Own (l : Bool × List Int) : Option (Bool × List Int) := (inf H).call 82 l
noncomputable def spec_l7Enabled (p : DProgram) (s : Bool × List Int) : Option (Bool × List Int) := (inf H).call 140 (p, s)
theorem key_spec_l7Enabled : H.key 140 = some h_spec_l7Enabled := by kernel_rfl
noncomputable def spec_l7Enabled_L0 (s : Bool × List Int) (p : DProgram) (out : Bool × List Int) (t9 : Bool × List DCommand) (t10 : Int) (t11 : Int) : Option (Bool × List Int) := (inf H).loop 140 0 (loopCode Tryz.f140 0) (s, (p, (out, (t9, (t10, t11)))))
noncomputable def spec_l7Do (p : DProgram) (s : Bool × List Int) (k_ : Int) : Option (Bool × List Int) := (inf H).call 143 (p, (s, k_))
theorem key_spec_l7Do : H.key 143 = some h_spec_l7Do := by kernel_rfl
noncomputable def spec_l7Do_L0 (s : Bool × List Int) (p : DProgram) (out : Bool × List Int) (t18 : Bool × List DChange) (t19 : Int) (t20 : Int) : Option (Bool × List Int) := (inf H).loop 143 0 (loopCode Tryz.f143 0) (s, (p, (out, (t18, (t19, t20)))))
noncomputable def spec_l7No (p : DProgram) (s : Bool × List Int) : Option Int := (inf H).call 142 (p, s)
theorem key_spec_l7No : H.key 142 = some h_spec_l7No := by kernel_rfl
noncomputable def spec_l7No_L0 (s : Bool × List Int) (p : DProgram) (n : Int) (v : Int) : Option Int := (inf H).loop 142 0 (loopCode Tryz.f142 0) (s, (p, (n, v)))
noncomputable def spec_l8Next (p : DProgram) (no : Int) : Option (Bool × List Int) := (inf H).call 83 (p, no)
theorem key_spec_l8Next : H.key 83 = some h_spec_l8Next := by kernel_rfl
noncomputable def spec_l8Next_L0 (no : Int) (p : DProgram) (s : Bool × List Int) (out : Bool × List Int) (t14 : Bool × List Int) (t15 : Int) (t16 : Int) : Option (Bool × List Int) := (inf H).loop 83 0 (loopCode Tryz.f83 0) (no, (p, (s, (out, (t14, (t15, t16))))))
noncomputable def spec_l14IsRun (q : DQuestion) (stem : Bool × List Int) (loop : Bool × List Int) : Option Bool := (inf H).call 36 (q, (stem, loop))
theorem key_spec_l14IsRun : H.key 36 = some h_spec_l14IsRun := by kernel_rfl
noncomputable def spec_l14IsRun_L0 (q : DQuestion) (all_ : Bool × List Int) (k_ : Int) : Option (Bool ⊕ Unit) := (inf H).loop 36 0 (loopCode Tryz.f36 0) (q, (all_, k_))
noncomputable def spec_l14Letter (q : DQuestion) (no : Int) : Option Int := (inf H).call 86 (q, no)
theorem key_spec_l14Letter : H.key 86 = some h_spec_l14Letter := by kernel_rfl
noncomputable def spec_l14Letter_L0 (no : Int) (q : DQuestion) (out : Int) (t9 : Bool × List (Bool × List DNode)) (t10 : Int) (t11 : Int) : Option Int := (inf H).loop 86 0 (loopCode Tryz.f86 0) (no, (q, (out, (t9, (t10, t11)))))
noncomputable def spec_l14Word (q : DQuestion) (stem : Bool × List Int) (loop : Bool × List Int) : Option DLasso := (inf H).call 38 (q, (stem, loop))
theorem key_spec_l14Word : H.key 38 = some h_spec_l14Word := by kernel_rfl
noncomputable def spec_l14Word_L0 (loop : Bool × List Int) (q : DQuestion) (t6 : DLasso) (out_0 : Bool × List Int) (out_1 : Bool × List Int) (t12 : Bool × List Int) (t13 : Int) (t14 : Int) : Option DLasso := (inf H).loop 38 0 (loopCode Tryz.f38 0) (loop, (q, (t6, (out_0, (out_1, (t12, (t13, t14)))))))
noncomputable def spec_l14Word_L2 (q : DQuestion) (t6 : DLasso) (out_0 : Bool × List Int) (out_1 : Bool × List Int) (t27 : Bool × List Int) (t28 : Int) (t29 : Int) : Option DLasso := (inf H).loop 38 2 (loopCode Tryz.f38 2) (q, (t6, (out_0, (out_1, (t27, (t28, t29))))))
noncomputable def spec_l9At (l : DLasso) (k_ : Int) : Option Int := (inf H).call 145 (l, k_)
noncomputable def spec_l10From (f : Bool × List DSaid) (k_ : Int) : Option Int := (inf H).call 211 (f, k_)
theorem key_spec_l10From : H.key 211 = some h_spec_l10From := by kernel_rfl
noncomputable def spec_l10From_L0 (f : Bool × List DSaid) (from_ : Int) (many : Int) : Option Int := (inf H).loop 211 0 (loopCode Tryz.f211 0) (f, (from_, many))
noncomputable def spec_l10Cell (f : Bool × List DSaid) (parts_ : Bool × List (Bool × List Bool)) (i : Int) (letter : Int) (k_ : Int) (next : Int) (later : Bool) : Option Bool := (inf H).call 144 (f, (parts_, (i, (letter, (k_, (next, later))))))
noncomputable def spec_l10Table (f : Bool × List DSaid) (l : DLasso) : Option (Bool × List (Bool × List Bool)) := (inf H).call 84 (f, l)
theorem key_spec_l10Table : H.key 84 = some h_spec_l10Table := by kernel_rfl
noncomputable def spec_l10Table_L0 (f : Bool × List DSaid) (l : DLasso) (n : Int) (out : Bool × List (Bool × List Bool)) (t21 : Bool × List DSaid) (t22 : Int) (t23 : Int) : Option (Bool × List (Bool × List Bool)) := (inf H).loop 84 0 (loopCode Tryz.f84 0) (f, (l, (n, (out, (t21, (t22, t23))))))
noncomputable def spec_l10Table_L2 (f : Bool × List DSaid) (l : DLasso) (n : Int) (out : Bool × List (Bool × List Bool)) (i : Int) (x : DSaid) (row_ : Bool × List Bool) (t21 : Bool × List DSaid) (t22 : Int) (t23 : Int) (t31 : Int) (t32 : Int) : Option (Bool × List Bool) := (inf H).loop 84 2 (loopCode Tryz.f84 2) (f, (l, (n, (out, (i, (x, (row_, (t21, (t22, (t23, (t31, t32)))))))))))
noncomputable def spec_l10Table_L4 (f : Bool × List DSaid) (l : DLasso) (n : Int) (out : Bool × List (Bool × List Bool)) (i : Int) (row_ : Bool × List Bool) (turn : Int) (t21 : Bool × List DSaid) (t22 : Int) (t23 : Int) : Option (Bool × List Bool) := (inf H).loop 84 4 (loopCode Tryz.f84 4) (f, (l, (n, (out, (i, (row_, (turn, (t21, (t22, t23)))))))))
noncomputable def spec_l10Table_L6 (f : Bool × List DSaid) (l : DLasso) (n : Int) (out : Bool × List (Bool × List Bool)) (i : Int) (row_ : Bool × List Bool) (turn : Int) (k_ : Int) (t21 : Bool × List DSaid) (t22 : Int) (t23 : Int) : Option (Bool × List Bool) := (inf H).loop 84 6 (loopCode Tryz.f84 6) (f, (l, (n, (out, (i, (row_, (turn, (k_, (t21, (t22, t23))))))))))
noncomputable def spec_l10Fold (l : DLasso) (k_ : Int) : Option Int := (inf H).call 85 (l, k_)
noncomputable def spec_l10At (f : Bool × List DSaid) (l : DLasso) (k_ : Int) : Option Bool := (inf H).call 37 (f, (l, k_))
noncomputable def spec_CheckRun (q : DQuestion) (stem : Bool × List Int) (loop : Bool × List Int) : Option (Int × Bool) := (inf H).call 7 (q, (stem, loop))
noncomputable def impl_isWide (n : Int) : Option Bool := (inf H).call 249 n
noncomputable def impl_isVars (n : Int) : Option Bool := (inf H).call 250 n
noncomputable def impl_operandsOf (op : Int) : Option DEdge := (inf H).call 282 op
noncomputable def impl_mask (wide : Int) : Option Int := (inf H).call 94 wide
noncomputable def impl_GoodWord (wide : Int) (a : Int) : Option Bool := (inf H).call 290 (wide, a)
noncomputable def impl_isLeafRight (wide : Int) (vars : Int) (x : DNode) : Option Bool := (inf H).call 283 (wide, (vars, x))
noncomputable def impl_GoodTerm_1 (own : Int) (a1 : Int) : Option Bool := (inf H).call 284 (own, a1)
noncomputable def slices_IndexFunc_int_by_GoodTerm_1 (s : Bool × List Int) (f : Int × Unit) : Option Int := (inf H).call 147 (s, f)
theorem key_slices_IndexFunc_int_by_GoodTerm_1 : H.key 147 = some h_slices_IndexFunc_int_by_GoodTerm_1 := by kernel_rfl
noncomputable def slices_IndexFunc_int_by_GoodTerm_1_L0 (s : Bool × List Int) (f : Int × Unit) (t7 : Int) (t8 : Int) : Option (Int ⊕ Unit) := (inf H).loop 147 0 (loopCode Tryz.f147 0) (s, (f, (t7, t8)))
noncomputable def slices_ContainsFunc_int_by_GoodTerm_1 (s : Bool × List Int) (f : Int × Unit) : Option Bool := (inf H).call 90 (s, f)
noncomputable def impl_GoodTerm (wide : Int) (vars : Int) (t : Bool × List DNode) : Option Bool := (inf H).call 255 (wide, (vars, t))
theorem key_impl_GoodTerm : H.key 255 = some h_impl_GoodTerm := by kernel_rfl
noncomputable def impl_GoodTerm_L0 (wide : Int) (vars : Int) (stack : Bool × List Int) (t33 : Bool × List DNode) (t34 : Int) (t35 : Int) : Option (Bool ⊕ (Bool × List Int)) := (inf H).loop 255 0 (loopCode Tryz.f255 0) (wide, (vars, (stack, (t33, (t34, t35)))))
noncomputable def impl_kindOf (t : Bool × List DNode) : Option Int := (inf H).call 256 t
noncomputable def impl_isTermOf (wide : Int) (vars : Int) (t : Bool × List DNode) (kind : Int) : Option Bool := (inf H).call 199 (wide, (vars, (t, kind)))
noncomputable def impl_Program_isCondition (p : DProgram) (t : Bool × List DNode) : Option Bool := (inf H).call 130 (p, t)
noncomputable def impl_Program_isCommand (p : DProgram) (c : DCommand) : Option Bool := (inf H).call 253 (p, c)
theorem key_impl_Program_isCommand : H.key 253 = some h_impl_Program_isCommand := by kernel_rfl
noncomputable def impl_Program_isCommand_L0 (p : DProgram) (c : DCommand) (t13 : Bool × List DChange) (t14 : Int) (t15 : Int) : Option (Bool ⊕ Unit) := (inf H).loop 253 0 (loopCode Tryz.f253 0) (p, (c, (t13, (t14, t15))))
noncomputable def impl_GoodProgram_1 (c : DCommand) (a1 : DProgram) : Option Bool := (inf H).call 252 (c, a1)
noncomputable def slices_IndexFunc_Command_by_GoodProgram_1 (s : Bool × List DCommand) (f : DProgram × Unit) : Option Int := (inf H).call 281 (s, f)
theorem key_slices_IndexFunc_Command_by_GoodProgram_1 : H.key 281 = some h_slices_IndexFunc_Command_by_GoodProgram_1 := by kernel_rfl
noncomputable def slices_IndexFunc_Command_by_GoodProgram_1_L0 (s : Bool × List DCommand) (f : DProgram × Unit) (t7 : Int) (t8 : Int) : Option (Int ⊕ Unit) := (inf H).loop 281 0 (loopCode Tryz.f281 0) (s, (f, (t7, t8)))
noncomputable def slices_ContainsFunc_Command_by_GoodProgram_1 (s : Bool × List DCommand) (f : DProgram × Unit) : Option Bool := (inf H).call 251 (s, f)
noncomputable def impl_GoodProgram (p : DProgram) : Option Bool := (inf H).call 196 p
noncomputable def impl_isSmall (p : DProgram) : Option Bool := (inf H).call 126 p
noncomputable def impl_operandsOfSaid (op : Int) : Option Int := (inf H).call 98 op
noncomputable def impl_isSaid (x : DSaid) : Option Bool := (inf H).call 254 x
noncomputable def impl_GoodSaid (f : Bool × List DSaid) : Option Bool := (inf H).call 197 f
theorem key_impl_GoodSaid : H.key 197 = some h_impl_GoodSaid := by kernel_rfl
noncomputable def impl_GoodSaid_L0 (values : Int) (t15 : Bool × List DSaid) (t16 : Int) (t17 : Int) : Option (Bool ⊕ Int) := (inf H).loop 197 0 (loopCode Tryz.f197 0) (values, (t15, (t16, t17)))
noncomputable def slices_Clone_int (s : Bool × List Int) : Option (Bool × List Int) := (inf H).call 187 s
noncomputable def impl_operandIndexes (f : Bool × List DSaid) : Option (Bool × List (Bool × List Int)) := (inf H).call 233 f
theorem key_impl_operandIndexes : H.key 233 = some h_impl_operandIndexes := by kernel_rfl
noncomputable def impl_operandIndexes_L0 (out : Bool × List (Bool × List Int)) (stack : Bool × List Int) (t10 : Bool × List DSaid) (t11 : Int) (t12 : Int) : Option (Bool × List (Bool × List Int)) := (inf H).loop 233 0 (loopCode Tryz.f233 0) (out, (stack, (t10, (t11, t12))))
noncomputable def slices_Sort_int (s : Bool × List Int) : Option (Bool × List Int) := (inf H).call 219 s
noncomputable def slices_Compact_int (s : Bool × List Int) : Option (Bool × List Int) := (inf H).call 220 s
noncomputable def impl_tracked (f : Bool × List DSaid) : Option (Bool × List Int) := (inf H).call 189 f
theorem key_impl_tracked : H.key 189 = some h_impl_tracked := by kernel_rfl
noncomputable def impl_tracked_L0 (out : Bool × List Int) (operands : Bool × List (Bool × List Int)) (t13 : Bool × List DSaid) (t14 : Int) (t15 : Int) : Option (Bool × List Int) := (inf H).loop 189 0 (loopCode Tryz.f189 0) (out, (operands, (t13, (t14, t15))))
noncomputable def impl_isTracked (f : Bool × List DSaid) : Option Bool := (inf H).call 127 f
noncomputable def impl_GoodQuestion_1 (t : Bool × List DNode) (a1 : DQuestion) : Option Bool := (inf H).call 129 (t, a1)
noncomputable def slices_IndexFunc_Node_by_GoodQuestion_1 (s : Bool × List (Bool × List DNode)) (f : DQuestion × Unit) : Option Int := (inf H).call 198 (s, f)
theorem key_slices_IndexFunc_Node_by_GoodQuestion_1 : H.key 198 = some h_slices_IndexFunc_Node_by_GoodQuestion_1 := by kernel_rfl
noncomputable def slices_IndexFunc_Node_by_GoodQuestion_1_L0 (s : Bool × List (Bool × List DNode)) (f : DQuestion × Unit) (t7 : Int) (t8 : Int) : Option (Int ⊕ Unit) := (inf H).loop 198 0 (loopCode Tryz.f198 0) (s, (f, (t7, t8)))
noncomputable def slices_ContainsFunc_Node_by_GoodQuestion_1 (s : Bool × List (Bool × List DNode)) (f : DQuestion × Unit) : Option Bool := (inf H).call 128 (s, f)
noncomputable def impl_GoodQuestion (q : DQuestion) : Option Bool := (inf H).call 70 q
noncomputable def impl_Program_states (p : DProgram) : Option Int := (inf H).call 89 p
noncomputable def slices_Grow_int (n : Int) : Option (Bool × List Int) := (inf H).call 92 n
noncomputable def slices_Concat_int (slices : Bool × List (Bool × List Int)) : Option (Bool × List Int) := (inf H).call 42 slices
theorem key_slices_Concat_int : H.key 42 = some h_slices_Concat_int := by kernel_rfl
noncomputable def slices_Concat_int_L0 (slices : Bool × List (Bool × List Int)) (size_ : Int) (t9 : Bool × List (Bool × List Int)) (t10 : Int) (t11 : Int) : Option Int := (inf H).loop 42 0 (loopCode Tryz.f42 0) (slices, (size_, (t9, (t10, t11))))
noncomputable def slices_Concat_int_L2 (newslice : Bool × List Int) (t25 : Bool × List (Bool × List Int)) (t26 : Int) (t27 : Int) : Option (Bool × List Int) := (inf H).loop 42 2 (loopCode Tryz.f42 2) (newslice, (t25, (t26, t27)))
noncomputable def impl_Question_areStates_1 (no : Int) (a1 : Int) : Option Bool := (inf H).call 91 (no, a1)
noncomputable def slices_IndexFunc_int_by_Question_areStates_1 (s : Bool × List Int) (f : Int × Unit) : Option Int := (inf H).call 10109 (s, f)
theorem key_slices_IndexFunc_int_by_Question_areStates_1 : H.key 10109 = some h_slices_IndexFunc_int_by_Question_areStates_1 := by kernel_rfl
noncomputable def slices_IndexFunc_int_by_Question_areStates_1_L0 (s : Bool × List Int) (f : Int × Unit) (t7 : Int) (t8 : Int) : Option (Int ⊕ Unit) := (inf H).loop 10109 0 (loopCode Tryz.f147 0) (s, (f, (t7, t8)))
noncomputable def slices_ContainsFunc_int_by_Question_areStates_1 (s : Bool × List Int) (f : Int × Unit) : Option Bool := (inf H).call 10108 (s, f)
noncomputable def impl_Question_areStates (q : DQuestion) (stem : Bool × List Int) (loop : Bool × List Int) : Option Bool := (inf H).call 41 (q, (stem, loop))
noncomputable def impl_Program_stateOf (p : DProgram) (no : Int) : Option (Bool × List Int) := (inf H).call 44 (p, no)
theorem key_impl_Program_stateOf : H.key 44 = some h_impl_Program_stateOf := by kernel_rfl
noncomputable def impl_Program_stateOf_L0 (no : Int) (p : DProgram) (out : Bool × List Int) (t9 : Int) (t10 : Int) : Option (Bool × List Int) := (inf H).loop 44 0 (loopCode Tryz.f44 0) (no, (p, (out, (t9, t10))))
noncomputable def impl_areWords (wide : Int) (a : Int) (b : Int) : Option Bool := (inf H).call 270 (wide, (a, b))
noncomputable def bits_Div64 (hi : Int) (lo : Int) (y : Int) : Option (Int × Int) := (inf H).call 271 (hi, (lo, y))
noncomputable def impl_DivWord (wide : Int) (a : Int) (b : Int) : Option (Int × Int × Bool) := (inf H).call 213 (wide, (a, b))
noncomputable def impl_shift (wide : Int) (a : Int) (by_ : Int) (left_ : Bool) : Option Int := (inf H).call 214 (wide, (a, (by_, left_)))
noncomputable def impl_truth (holds : Bool) : Option Int := (inf H).call 215 holds
noncomputable def impl_signed (wide : Int) (a : Int) : Option Int := (inf H).call 216 (wide, a)
noncomputable def impl_apply (wide : Int) (op : Int) (a : Int) (b : Int) : Option Int := (inf H).call 148 (wide, (op, (a, b)))
noncomputable def impl_valueOf (wide : Int) (t : Bool × List DNode) (state : Bool × List Int) : Option Int := (inf H).call 93 (wide, (t, state))
theorem key_impl_valueOf : H.key 93 = some h_impl_valueOf := by kernel_rfl
noncomputable def impl_valueOf_L0 (wide : Int) (state : Bool × List Int) (stack : Bool × List Int) (t12 : Bool × List DNode) (t13 : Int) (t14 : Int) : Option (Bool × List Int) := (inf H).loop 93 0 (loopCode Tryz.f93 0) (wide, (state, (stack, (t12, (t13, t14)))))
noncomputable def impl_Program_holds (p : DProgram) (t : Bool × List DNode) (s : Bool × List Int) : Option Bool := (inf H).call 43 (p, (t, s))
noncomputable def slices_Clone_uint64 (s : Bool × List Int) : Option (Bool × List Int) := (inf H).call 272 s
noncomputable def impl_Program_after (p : DProgram) (c : DCommand) (s : Bool × List Int) : Option (Bool × List Int) := (inf H).call 218 (p, (c, s))
theorem key_impl_Program_after : H.key 218 = some h_impl_Program_after := by kernel_rfl
noncomputable def impl_Program_after_L0 (s : Bool × List Int) (p : DProgram) (out : Bool × List Int) (t13 : Bool × List DChange) (t14 : Int) (t15 : Int) : Option (Bool × List Int) := (inf H).loop 218 0 (loopCode Tryz.f218 0) (s, (p, (out, (t13, (t14, t15)))))
noncomputable def impl_Program_stateNo (p : DProgram) (s : Bool × List Int) : Option Int := (inf H).call 217 (p, s)
theorem key_impl_Program_stateNo : H.key 217 = some h_impl_Program_stateNo := by kernel_rfl
noncomputable def impl_Program_stateNo_L0 (p : DProgram) (no : Int) (t8 : Bool × List Int) (t9 : Int) (t10 : Int) : Option Int := (inf H).loop 217 0 (loopCode Tryz.f217 0) (p, (no, (t8, (t9, t10))))
noncomputable def impl_Program_nextOf (p : DProgram) (no : Int) : Option (Bool × List Int) := (inf H).call 149 (p, no)
theorem key_impl_Program_nextOf : H.key 149 = some h_impl_Program_nextOf := by kernel_rfl
noncomputable def impl_Program_nextOf_L0 (no : Int) (p : DProgram) (s : Bool × List Int) (out : Bool × List Int) (t14 : Bool × List DCommand) (t15 : Int) (t16 : Int) : Option (Bool × List Int) := (inf H).loop 149 0 (loopCode Tryz.f149 0) (no, (p, (s, (out, (t14, (t15, t16))))))
noncomputable def impl_Program_graph (p : DProgram) : Option (Bool × List (Bool × List Int)) := (inf H).call 95 p
theorem key_impl_Program_graph : H.key 95 = some h_impl_Program_graph := by kernel_rfl
noncomputable def impl_Program_graph_L0 (p : DProgram) (out : Bool × List (Bool × List Int)) (t7 : Int) (t8 : Int) : Option (Bool × List (Bool × List Int)) := (inf H).loop 95 0 (loopCode Tryz.f95 0) (p, (out, (t7, t8)))
noncomputable def slices_Index_int (s : Bool × List Int) (v : Int) : Option Int := (inf H).call 150 (s, v)
theorem key_slices_Index_int : H.key 150 = some h_slices_Index_int := by kernel_rfl
noncomputable def slices_Index_int_L0 (s : Bool × List Int) (v : Int) (t7 : Int) (t8 : Int) : Option (Int ⊕ Unit) := (inf H).loop 150 0 (loopCode Tryz.f150 0) (s, (v, (t7, t8)))
noncomputable def slices_Contains_int (s : Bool × List Int) (v : Int) : Option Bool := (inf H).call 96 (s, v)
noncomputable def impl_Question_isRun (q : DQuestion) (stem : Bool × List Int) (loop : Bool × List Int) : Option Bool := (inf H).call 45 (q, (stem, loop))
theorem key_impl_Question_isRun : H.key 45 = some h_impl_Question_isRun := by kernel_rfl
noncomputable def impl_Question_isRun_L0 (q : DQuestion) (way : Bool × List Int) (next : Bool × List (Bool × List Int)) (i : Int) : Option (Bool ⊕ Unit) := (inf H).loop 45 0 (loopCode Tryz.f45 0) (q, (way, (next, i)))
noncomputable def impl_Question_letterOf (q : DQuestion) (no : Int) : Option Int := (inf H).call 97 (q, no)
theorem key_impl_Question_letterOf : H.key 97 = some h_impl_Question_letterOf := by kernel_rfl
noncomputable def impl_Question_letterOf_L0 (q : DQuestion) (s : Bool × List Int) (letter : Int) (t14 : Bool × List (Bool × List DNode)) (t15 : Int) (t16 : Int) : Option Int := (inf H).loop 97 0 (loopCode Tryz.f97 0) (q, (s, (letter, (t14, (t15, t16)))))
noncomputable def impl_Question_letters (q : DQuestion) (list : Bool × List Int) : Option (Bool × List Int) := (inf H).call 46 (q, list)
theorem key_impl_Question_letters : H.key 46 = some h_impl_Question_letters := by kernel_rfl
noncomputable def impl_Question_letters_L0 (q : DQuestion) (out : Bool × List Int) (t9 : Bool × List Int) (t10 : Int) (t11 : Int) : Option (Bool × List Int) := (inf H).loop 46 0 (loopCode Tryz.f46 0) (q, (out, (t9, (t10, t11))))
noncomputable def bits_Mul64 (x : Int) (y : Int) : Option (Int × Int) := (inf H).call 230 (x, y)
noncomputable def bits_Mul (x : Int) (y : Int) : Option (Int × Int) := (inf H).call 172 (x, y)
noncomputable def slices_Repeat_bool (x : Bool × List Bool) (count : Int) : Option (Bool × List Bool) := (inf H).call 221 (x, count)
theorem key_slices_Repeat_bool : H.key 221 = some h_slices_Repeat_bool := by kernel_rfl
noncomputable def slices_Repeat_bool_L0 (newslice : Bool × List Bool) (n : Int) : Option (Bool × List Bool) := (inf H).loop 221 0 (loopCode Tryz.f221 0) (newslice, n)
noncomputable def impl_Lasso_nextPlace (l : DLasso) (k_ : Int) : Option Int := (inf H).call 157 (l, k_)
noncomputable def impl_Lasso_holdsAlong_2 (k_ : Int) (a1 : Bool × List (Bool × List Bool)) : Option Bool := (inf H).call 152 (k_, a1)
noncomputable def impl_Lasso_holdsAlong_1 (k_ : Int) (a1 : Bool × List (Bool × List Bool)) : Option Bool := (inf H).call 151 (k_, a1)
noncomputable def impl_Lasso_holdsAlong_3 (k_ : Int) (next : Bool) (a2 : (Bool × List (Bool × List Bool)) × Unit) (a3 : (Bool × List (Bool × List Bool)) × Unit) : Option Bool := (inf H).call 154 (k_, (next, (a2, a3)))
noncomputable def impl_Lasso_fixed_by_Lasso_holdsAlong_3 (l : DLasso) (from_ : Bool) (rule : ((Bool × List (Bool × List Bool)) × Unit) × ((Bool × List (Bool × List Bool)) × Unit) × Unit) : Option (Bool × List Bool) := (inf H).call 153 (l, (from_, rule))
theorem key_impl_Lasso_fixed_by_Lasso_holdsAlong_3 : H.key 153 = some h_impl_Lasso_fixed_by_Lasso_holdsAlong_3 := by kernel_rfl
noncomputable def impl_Lasso_fixed_by_Lasso_holdsAlong_3_L0 (l : DLasso) (rule : ((Bool × List (Bool × List Bool)) × Unit) × ((Bool × List (Bool × List Bool)) × Unit) × Unit) (t6 : Bool × List Bool) (out : Bool × List Bool) (t19 : Int) : Option (Bool × List Bool) := (inf H).loop 153 0 (loopCode Tryz.f153 0) (l, (rule, (t6, (out, t19))))
noncomputable def impl_Lasso_fixed_by_Lasso_holdsAlong_3_L2 (l : DLasso) (rule : ((Bool × List (Bool × List Bool)) × Unit) × ((Bool × List (Bool × List Bool)) × Unit) × Unit) (out : Bool × List Bool) (t23 : Int) : Option (Bool × List Bool) := (inf H).loop 153 2 (loopCode Tryz.f153 2) (l, (rule, (out, t23)))
noncomputable def impl_Lasso_holdsAlong_4 (k_ : Int) (next : Bool) (a2 : (Bool × List (Bool × List Bool)) × Unit) (a3 : (Bool × List (Bool × List Bool)) × Unit) : Option Bool := (inf H).call 155 (k_, (next, (a2, a3)))
noncomputable def impl_Lasso_fixed_by_Lasso_holdsAlong_4 (l : DLasso) (from_ : Bool) (rule : ((Bool × List (Bool × List Bool)) × Unit) × ((Bool × List (Bool × List Bool)) × Unit) × Unit) : Option (Bool × List Bool) := (inf H).call 10141 (l, (from_, rule))
theorem key_impl_Lasso_fixed_by_Lasso_holdsAlong_4 : H.key 10141 = some h_impl_Lasso_fixed_by_Lasso_holdsAlong_4 := by kernel_rfl
noncomputable def impl_Lasso_fixed_by_Lasso_holdsAlong_4_L0 (l : DLasso) (rule : ((Bool × List (Bool × List Bool)) × Unit) × ((Bool × List (Bool × List Bool)) × Unit) × Unit) (t6 : Bool × List Bool) (out : Bool × List Bool) (t19 : Int) : Option (Bool × List Bool) := (inf H).loop 10141 0 (loopCode Tryz.f153 0) (l, (rule, (t6, (out, t19))))
noncomputable def impl_Lasso_fixed_by_Lasso_holdsAlong_4_L2 (l : DLasso) (rule : ((Bool × List (Bool × List Bool)) × Unit) × ((Bool × List (Bool × List Bool)) × Unit) × Unit) (out : Bool × List Bool) (t23 : Int) : Option (Bool × List Bool) := (inf H).loop 10141 2 (loopCode Tryz.f153 2) (l, (rule, (out, t23)))
noncomputable def impl_Lasso_letterAt (l : DLasso) (k_ : Int) : Option Int := (inf H).call 156 (l, k_)
noncomputable def impl_Lasso_holdsAlong (l : DLasso) (x : DSaid) (operands : Bool × List (Bool × List Bool)) : Option (Bool × List Bool) := (inf H).call 99 (l, (x, operands))
theorem key_impl_Lasso_holdsAlong : H.key 99 = some h_impl_Lasso_holdsAlong := by kernel_rfl
noncomputable def impl_Lasso_holdsAlong_L1 (l : DLasso) (x : DSaid) (a : (Bool × List (Bool × List Bool)) × Unit) (b : (Bool × List (Bool × List Bool)) × Unit) (out : Bool × List Bool) (t33 : Int) (t34 : Int) : Option (Bool × List Bool) := (inf H).loop 99 1 (loopCode Tryz.f99 1) (l, (x, (a, (b, (out, (t33, t34))))))
noncomputable def impl_Lasso_along (l : DLasso) (f : Bool × List DSaid) : Option (Bool × List Bool) := (inf H).call 47 (l, f)
theorem key_impl_Lasso_along : H.key 47 = some h_impl_Lasso_along := by kernel_rfl
noncomputable def impl_Lasso_along_L0 (l : DLasso) (stack : Bool × List (Bool × List Bool)) (t10 : Bool × List DSaid) (t11 : Int) (t12 : Int) : Option (Bool × List (Bool × List Bool)) := (inf H).loop 47 0 (loopCode Tryz.f47 0) (l, (stack, (t10, (t11, t12))))
noncomputable def impl_CheckRun (q : DQuestion) (stem : Bool × List Int) (loop : Bool × List Int) : Option (Int × Bool) := (inf H).call 10 (q, (stem, loop))
noncomputable def laws_eqNode (a : DNode) (b : DNode) : Option Bool := (inf H).call 136 (a, b)
noncomputable def laws_eqNodeS (a : Bool × List DNode) (b : Bool × List DNode) : Option Bool := (inf H).call 74 (a, b)
theorem key_laws_eqNodeS : H.key 74 = some h_laws_eqNodeS := by kernel_rfl
noncomputable def laws_eqNodeS_L0 (a : Bool × List DNode) (b : Bool × List DNode) (i : Int) : Option (Bool ⊕ Unit) := (inf H).loop 74 0 (loopCode Tryz.f74 0) (a, (b, i))
noncomputable def laws_eqChange (a : DChange) (b : DChange) : Option Bool := (inf H).call 276 (a, b)
noncomputable def laws_eqChangeS (a : Bool × List DChange) (b : Bool × List DChange) : Option Bool := (inf H).call 223 (a, b)
theorem key_laws_eqChangeS : H.key 223 = some h_laws_eqChangeS := by kernel_rfl
noncomputable def laws_eqChangeS_L0 (a : Bool × List DChange) (b : Bool × List DChange) (i : Int) : Option (Bool ⊕ Unit) := (inf H).loop 223 0 (loopCode Tryz.f223 0) (a, (b, i))
noncomputable def laws_eqCommand (a : DCommand) (b : DCommand) : Option Bool := (inf H).call 158 (a, b)
noncomputable def laws_eqCommandS (a : Bool × List DCommand) (b : Bool × List DCommand) : Option Bool := (inf H).call 101 (a, b)
theorem key_laws_eqCommandS : H.key 101 = some h_laws_eqCommandS := by kernel_rfl
noncomputable def laws_eqCommandS_L0 (a : Bool × List DCommand) (b : Bool × List DCommand) (i : Int) : Option (Bool ⊕ Unit) := (inf H).loop 101 0 (loopCode Tryz.f101 0) (a, (b, i))
noncomputable def laws_eqProgram (a : DProgram) (b : DProgram) : Option Bool := (inf H).call 48 (a, b)
noncomputable def laws_eqNodeSS (a : Bool × List (Bool × List DNode)) (b : Bool × List (Bool × List DNode)) : Option Bool := (inf H).call 27 (a, b)
theorem key_laws_eqNodeSS : H.key 27 = some h_laws_eqNodeSS := by kernel_rfl
noncomputable def laws_eqNodeSS_L0 (a : Bool × List (Bool × List DNode)) (b : Bool × List (Bool × List DNode)) (i : Int) : Option (Bool ⊕ Unit) := (inf H).loop 27 0 (loopCode Tryz.f27 0) (a, (b, i))
noncomputable def laws_eqSaid (a : DSaid) (b : DSaid) : Option Bool := (inf H).call 102 (a, b)
noncomputable def laws_eqSaidS (a : Bool × List DSaid) (b : Bool × List DSaid) : Option Bool := (inf H).call 49 (a, b)
theorem key_laws_eqSaidS : H.key 49 = some h_laws_eqSaidS := by kernel_rfl
noncomputable def laws_eqSaidS_L0 (a : Bool × List DSaid) (b : Bool × List DSaid) (i : Int) : Option (Bool ⊕ Unit) := (inf H).loop 49 0 (loopCode Tryz.f49 0) (a, (b, i))
noncomputable def laws_eqQuestion (a : DQuestion) (b : DQuestion) : Option Bool := (inf H).call 11 (a, b)
noncomputable def laws_eqIntS (a : Bool × List Int) (b : Bool × List Int) : Option Bool := (inf H).call 12 (a, b)
theorem key_laws_eqIntS : H.key 12 = some h_laws_eqIntS := by kernel_rfl
noncomputable def laws_eqIntS_L0 (a : Bool × List Int) (b : Bool × List Int) (i : Int) : Option (Bool ⊕ Unit) := (inf H).loop 12 0 (loopCode Tryz.f12 0) (a, (b, i))
noncomputable def laws_FnExactCheckRun (aQ : DQuestion) (aStem : Bool × List Int) (aLoop : Bool × List Int) : Option Bool := (inf H).call 3 (aQ, (aStem, aLoop))
theorem laws_szNodeS_eq (a : Bool × List DNode) (left_ : Int) : laws_szNodeS a left_ =
 bif decide ((IntKind.i64.wrap (left_ - (a.2.length : Int))) < 0) then
 some (-1)
else 
 some (IntKind.i64.wrap (left_ - (a.2.length : Int))) := Eq.trans (inf_call_eq (H := H) 59 (a, left_)) (by kernel_rfl)
theorem laws_szChange_eq (a : DChange) (left_ : Int) : laws_szChange a left_ =
(laws_szNodeS a.2 left_).bind fun r =>
 bif decide (r < 0) then
 some (-1)
else 
 some r := Eq.trans (inf_call_eq (H := H) 264 (a, left_)) (by kernel_rfl)
theorem laws_szChangeS_L0_eq (a : Bool × List DChange) (left_ : Int) (i : Int) : laws_szChangeS_L0 a left_ i =
 bif decide (i < (a.2.length : Int)) then
 bif decide (0 ≤ i) then
 bif decide (i < (a.2.length : Int)) then
(laws_szChange (a.2.getD (Int.toNat i) (0, (true, []))) left_).bind fun r =>
 bif decide (r < 0) then
 some (.inl (-1))
else 
(laws_szChangeS_L0 a r (IntKind.i64.wrap (i + 1))).bind fun r => some r
else none
else none
else 
 some (.inr left_) := Eq.trans (inf_loop_eq (H := H) 206 0 (loopCode Tryz.f206 0) (a, (left_, i)) key_laws_szChangeS) (by kernel_rfl)
theorem laws_szChangeS_eq (a : Bool × List DChange) (left_ : Int) : laws_szChangeS a left_ =
 bif decide ((IntKind.i64.wrap (left_ - (a.2.length : Int))) < 0) then
 some (-1)
else 
(laws_szChangeS_L0 a (IntKind.i64.wrap (left_ - (a.2.length : Int))) 0).bind fun r =>
 match r with
| .inl y =>
 some y
| .inr z =>
 some z := Eq.trans (inf_call_eq (H := H) 206 (a, left_)) (by kernel_rfl)
theorem laws_szCommand_eq (a : DCommand) (left_ : Int) : laws_szCommand a left_ =
(laws_szNodeS a.1 left_).bind fun r =>
 bif decide (r < 0) then
 some (-1)
else 
(laws_szChangeS a.2 r).bind fun r1 =>
 bif decide (r1 < 0) then
 some (-1)
else 
 some r1 := Eq.trans (inf_call_eq (H := H) 137 (a, left_)) (by kernel_rfl)
theorem laws_szCommandS_L0_eq (a : Bool × List DCommand) (left_ : Int) (i : Int) : laws_szCommandS_L0 a left_ i =
 bif decide (i < (a.2.length : Int)) then
 bif decide (0 ≤ i) then
 bif decide (i < (a.2.length : Int)) then
(laws_szCommand (a.2.getD (Int.toNat i) ((true, []), (true, []))) left_).bind fun r =>
 bif decide (r < 0) then
 some (.inl (-1))
else 
(laws_szCommandS_L0 a r (IntKind.i64.wrap (i + 1))).bind fun r => some r
else none
else none
else 
 some (.inr left_) := Eq.trans (inf_loop_eq (H := H) 77 0 (loopCode Tryz.f77 0) (a, (left_, i)) key_laws_szCommandS) (by kernel_rfl)
theorem laws_szCommandS_eq (a : Bool × List DCommand) (left_ : Int) : laws_szCommandS a left_ =
 bif decide ((IntKind.i64.wrap (left_ - (a.2.length : Int))) < 0) then
 some (-1)
else 
(laws_szCommandS_L0 a (IntKind.i64.wrap (left_ - (a.2.length : Int))) 0).bind fun r =>
 match r with
| .inl y =>
 some y
| .inr z =>
 some z := Eq.trans (inf_call_eq (H := H) 77 (a, left_)) (by kernel_rfl)
theorem laws_szProgram_eq (a : DProgram) (left_ : Int) : laws_szProgram a left_ =
(laws_szNodeS a.2.2.1 left_).bind fun r =>
 bif decide (r < 0) then
 some (-1)
else 
(laws_szCommandS a.2.2.2 r).bind fun r1 =>
 bif decide (r1 < 0) then
 some (-1)
else 
 some r1 := Eq.trans (inf_call_eq (H := H) 31 (a, left_)) (by kernel_rfl)
theorem laws_szNodeSS_L0_eq (a : Bool × List (Bool × List DNode)) (left_ : Int) (i : Int) : laws_szNodeSS_L0 a left_ i =
 bif decide (i < (a.2.length : Int)) then
 bif decide (0 ≤ i) then
 bif decide (i < (a.2.length : Int)) then
(laws_szNodeS (a.2.getD (Int.toNat i) (true, [])) left_).bind fun r =>
 bif decide (r < 0) then
 some (.inl (-1))
else 
(laws_szNodeSS_L0 a r (IntKind.i64.wrap (i + 1))).bind fun r => some r
else none
else none
else 
 some (.inr left_) := Eq.trans (inf_loop_eq (H := H) 22 0 (loopCode Tryz.f22 0) (a, (left_, i)) key_laws_szNodeSS) (by kernel_rfl)
theorem laws_szNodeSS_eq (a : Bool × List (Bool × List DNode)) (left_ : Int) : laws_szNodeSS a left_ =
 bif decide ((IntKind.i64.wrap (left_ - (a.2.length : Int))) < 0) then
 some (-1)
else 
(laws_szNodeSS_L0 a (IntKind.i64.wrap (left_ - (a.2.length : Int))) 0).bind fun r =>
 match r with
| .inl y =>
 some y
| .inr z =>
 some z := Eq.trans (inf_call_eq (H := H) 22 (a, left_)) (by kernel_rfl)
theorem laws_szSaidS_eq (a : Bool × List DSaid) (left_ : Int) : laws_szSaidS a left_ =
 bif decide ((IntKind.i64.wrap (left_ - (a.2.length : Int))) < 0) then
 some (-1)
else 
 some (IntKind.i64.wrap (left_ - (a.2.length : Int))) := Eq.trans (inf_call_eq (H := H) 32 (a, left_)) (by kernel_rfl)
theorem laws_szQuestion_eq (a : DQuestion) (left_ : Int) : laws_szQuestion a left_ =
(laws_szProgram a.1 left_).bind fun r =>
 bif decide (r < 0) then
 some (-1)
else 
(laws_szNodeSS a.2.1 r).bind fun r1 =>
 bif decide (r1 < 0) then
 some (-1)
else 
(laws_szSaidS a.2.2 r1).bind fun r2 =>
 bif decide (r2 < 0) then
 some (-1)
else 
 some r2 := Eq.trans (inf_call_eq (H := H) 6 (a, left_)) (by kernel_rfl)
theorem laws_toNode_eq (a : DNode) : laws_toNode a =
 some (a.1, a.2) := Eq.trans (inf_call_eq (H := H) 125 a) (by kernel_rfl)
theorem laws_toNodeS_L0_eq (a : Bool × List DNode) (out : Bool × List DNode) (i : Int) : laws_toNodeS_L0 a out i =
 bif decide (i < (a.2.length : Int)) then
 bif decide (0 ≤ i) then
 bif decide (i < (a.2.length : Int)) then
(laws_toNode (a.2.getD (Int.toNat i) (0, 0))).bind fun r =>
 bif decide (0 ≤ i) then
 bif decide (i < (out.2.length : Int)) then
(laws_toNodeS_L0 a (out.1, (out.2.set (Int.toNat i) r)) (IntKind.i64.wrap (i + 1))).bind fun r => some r
else none
else none
else none
else none
else 
 some (out.1, out.2) := Eq.trans (inf_loop_eq (H := H) 69 0 (loopCode Tryz.f69 0) (a, (out, i)) key_laws_toNodeS) (by kernel_rfl)
theorem laws_toNodeS_eq (a : Bool × List DNode) : laws_toNodeS a =
 bif decide (0 ≤ (a.2.length : Int)) then
 bif decide ((a.2.length : Int) ≤ lim) then
 bif decide ((a.2.length : Int) ≤ (a.2.length : Int)) then
 bif decide ((a.2.length : Int) ≤ lim) then
(laws_toNodeS_L0 a (false, (List.replicate (Int.toNat (a.2.length : Int)) ((0, 0) : DNode))) 0).bind fun r =>
 some (r.1, r.2)
else none
else none
else none
else none := Eq.trans (inf_call_eq (H := H) 69 a) (by kernel_rfl)
theorem laws_toChange_eq (a : DChange) : laws_toChange a =
(laws_toNodeS a.2).bind fun r =>
 some (a.1, (r.1, r.2)) := Eq.trans (inf_call_eq (H := H) 269 a) (by kernel_rfl)
theorem laws_toChangeS_L0_eq (a : Bool × List DChange) (out : Bool × List DChange) (i : Int) : laws_toChangeS_L0 a out i =
 bif decide (i < (a.2.length : Int)) then
 bif decide (0 ≤ i) then
 bif decide (i < (a.2.length : Int)) then
(laws_toChange (a.2.getD (Int.toNat i) (0, (true, [])))).bind fun r =>
 bif decide (0 ≤ i) then
 bif decide (i < (out.2.length : Int)) then
(laws_toChangeS_L0 a (out.1, (out.2.set (Int.toNat i) (r.1, (r.2.1, r.2.2)))) (IntKind.i64.wrap (i + 1))).bind fun r => some r
else none
else none
else none
else none
else 
 some (out.1, out.2) := Eq.trans (inf_loop_eq (H := H) 212 0 (loopCode Tryz.f212 0) (a, (out, i)) key_laws_toChangeS) (by kernel_rfl)
theorem laws_toChangeS_eq (a : Bool × List DChange) : laws_toChangeS a =
 bif decide (0 ≤ (a.2.length : Int)) then
 bif decide ((a.2.length : Int) ≤ lim) then
 bif decide ((a.2.length : Int) ≤ (a.2.length : Int)) then
 bif decide ((a.2.length : Int) ≤ lim) then
(laws_toChangeS_L0 a (false, (List.replicate (Int.toNat (a.2.length : Int)) ((0, (true, [])) : DChange))) 0).bind fun r =>
 some (r.1, r.2)
else none
else none
else none
else none := Eq.trans (inf_call_eq (H := H) 212 a) (by kernel_rfl)
theorem laws_toCommand_eq (a : DCommand) : laws_toCommand a =
(laws_toNodeS a.1).bind fun r =>
(laws_toChangeS a.2).bind fun r1 =>
 some ((r.1, r.2), (r1.1, r1.2)) := Eq.trans (inf_call_eq (H := H) 146 a) (by kernel_rfl)
theorem laws_toCommandS_L0_eq (a : Bool × List DCommand) (out : Bool × List DCommand) (i : Int) : laws_toCommandS_L0 a out i =
 bif decide (i < (a.2.length : Int)) then
 bif decide (0 ≤ i) then
 bif decide (i < (a.2.length : Int)) then
(laws_toCommand (a.2.getD (Int.toNat i) ((true, []), (true, [])))).bind fun r =>
 bif decide (0 ≤ i) then
 bif decide (i < (out.2.length : Int)) then
(laws_toCommandS_L0 a (out.1, (out.2.set (Int.toNat i) ((r.1.1, r.1.2), (r.2.1, r.2.2)))) (IntKind.i64.wrap (i + 1))).bind fun r => some r
else none
else none
else none
else none
else 
 some (out.1, out.2) := Eq.trans (inf_loop_eq (H := H) 87 0 (loopCode Tryz.f87 0) (a, (out, i)) key_laws_toCommandS) (by kernel_rfl)
theorem laws_toCommandS_eq (a : Bool × List DCommand) : laws_toCommandS a =
 bif decide (0 ≤ (a.2.length : Int)) then
 bif decide ((a.2.length : Int) ≤ lim) then
 bif decide ((a.2.length : Int) ≤ (a.2.length : Int)) then
 bif decide ((a.2.length : Int) ≤ lim) then
(laws_toCommandS_L0 a (false, (List.replicate (Int.toNat (a.2.length : Int)) (((true, []), (true, [])) : DCommand))) 0).bind fun r =>
 some (r.1, r.2)
else none
else none
else none
else none := Eq.trans (inf_call_eq (H := H) 87 a) (by kernel_rfl)
theorem laws_toProgram_eq (a : DProgram) : laws_toProgram a =
(laws_toNodeS a.2.2.1).bind fun r =>
(laws_toCommandS a.2.2.2).bind fun r1 =>
 some (a.1, (a.2.1, ((r.1, r.2), (r1.1, r1.2)))) := Eq.trans (inf_call_eq (H := H) 39 a) (by kernel_rfl)
theorem laws_toNodeSS_L0_eq (a : Bool × List (Bool × List DNode)) (out : Bool × List (Bool × List DNode)) (i : Int) : laws_toNodeSS_L0 a out i =
 bif decide (i < (a.2.length : Int)) then
 bif decide (0 ≤ i) then
 bif decide (i < (a.2.length : Int)) then
(laws_toNodeS (a.2.getD (Int.toNat i) (true, []))).bind fun r =>
 bif decide (0 ≤ i) then
 bif decide (i < (out.2.length : Int)) then
(laws_toNodeSS_L0 a (out.1, (out.2.set (Int.toNat i) (r.1, r.2))) (IntKind.i64.wrap (i + 1))).bind fun r => some r
else none
else none
else none
else none
else 
 some (out.1, out.2) := Eq.trans (inf_loop_eq (H := H) 24 0 (loopCode Tryz.f24 0) (a, (out, i)) key_laws_toNodeSS) (by kernel_rfl)
theorem laws_toNodeSS_eq (a : Bool × List (Bool × List DNode)) : laws_toNodeSS a =
 bif decide (0 ≤ (a.2.length : Int)) then
 bif decide ((a.2.length : Int) ≤ lim) then
 bif decide ((a.2.length : Int) ≤ (a.2.length : Int)) then
 bif decide ((a.2.length : Int) ≤ lim) then
(laws_toNodeSS_L0 a (false, (List.replicate (Int.toNat (a.2.length : Int)) ((true, []) : Bool × List DNode))) 0).bind fun r =>
 some (r.1, r.2)
else none
else none
else none
else none := Eq.trans (inf_call_eq (H := H) 24 a) (by kernel_rfl)
theorem laws_toSaid_eq (a : DSaid) : laws_toSaid a =
 some (a.1, a.2) := Eq.trans (inf_call_eq (H := H) 88 a) (by kernel_rfl)
theorem laws_toSaidS_L0_eq (a : Bool × List DSaid) (out : Bool × List DSaid) (i : Int) : laws_toSaidS_L0 a out i =
 bif decide (i < (a.2.length : Int)) then
 bif decide (0 ≤ i) then
 bif decide (i < (a.2.length : Int)) then
(laws_toSaid (a.2.getD (Int.toNat i) (0, 0))).bind fun r =>
 bif decide (0 ≤ i) then
 bif decide (i < (out.2.length : Int)) then
(laws_toSaidS_L0 a (out.1, (out.2.set (Int.toNat i) r)) (IntKind.i64.wrap (i + 1))).bind fun r => some r
else none
else none
else none
else none
else 
 some (out.1, out.2) := Eq.trans (inf_loop_eq (H := H) 40 0 (loopCode Tryz.f40 0) (a, (out, i)) key_laws_toSaidS) (by kernel_rfl)
theorem laws_toSaidS_eq (a : Bool × List DSaid) : laws_toSaidS a =
 bif decide (0 ≤ (a.2.length : Int)) then
 bif decide ((a.2.length : Int) ≤ lim) then
 bif decide ((a.2.length : Int) ≤ (a.2.length : Int)) then
 bif decide ((a.2.length : Int) ≤ lim) then
(laws_toSaidS_L0 a (false, (List.replicate (Int.toNat (a.2.length : Int)) ((0, 0) : DSaid))) 0).bind fun r =>
 some (r.1, r.2)
else none
else none
else none
else none := Eq.trans (inf_call_eq (H := H) 40 a) (by kernel_rfl)
theorem laws_toQuestion_eq (a : DQuestion) : laws_toQuestion a =
(laws_toProgram a.1).bind fun r =>
(laws_toNodeSS a.2.1).bind fun r1 =>
(laws_toSaidS a.2.2).bind fun r2 =>
 some (r.1, (r.2.1, ((r.2.2.1.1, r.2.2.1.2), ((r.2.2.2.1, r.2.2.2.2), ((r1.1, r1.2), (r2.1, r2.2)))))) := Eq.trans (inf_call_eq (H := H) 8 a) (by kernel_rfl)
theorem laws_toIntS_L0_eq (a : Bool × List Int) (out : Bool × List Int) (i : Int) : laws_toIntS_L0 a out i =
 bif decide (i < (a.2.length : Int)) then
 bif decide (0 ≤ i) then
 bif decide (i < (a.2.length : Int)) then
 bif decide (0 ≤ i) then
 bif decide (i < (out.2.length : Int)) then
(laws_toIntS_L0 a (out.1, (out.2.set (Int.toNat i) (a.2.getD (Int.toNat i) 0))) (IntKind.i64.wrap (i + 1))).bind fun r => some r
else none
else none
else none
else none
else 
 some (out.1, out.2) := Eq.trans (inf_loop_eq (H := H) 9 0 (loopCode Tryz.f9 0) (a, (out, i)) key_laws_toIntS) (by kernel_rfl)
theorem laws_toIntS_eq (a : Bool × List Int) : laws_toIntS a =
 bif decide (0 ≤ (a.2.length : Int)) then
 bif decide ((a.2.length : Int) ≤ lim) then
 bif decide ((a.2.length : Int) ≤ (a.2.length : Int)) then
 bif decide ((a.2.length : Int) ≤ lim) then
(laws_toIntS_L0 a (false, (List.replicate (Int.toNat (a.2.length : Int)) (0 : Int))) 0).bind fun r =>
 some (r.1, r.2)
else none
else none
else none
else none := Eq.trans (inf_call_eq (H := H) 9 a) (by kernel_rfl)
theorem spec_l1In_eq (n : Int) (lo : Int) (hi : Int) : spec_l1In n lo hi =
 bif decide (n ≥ lo) then
 some (decide (n ≤ hi))
else 
 some false := Eq.trans (inf_call_eq (H := H) 62 (n, (lo, hi))) (by kernel_rfl)
theorem spec_l1Wide_eq (wide : Int) : spec_l1Wide wide =
(spec_l1In wide 1 64).bind fun r =>
 some r := Eq.trans (inf_call_eq (H := H) 247 wide) (by kernel_rfl)
theorem spec_l2Need_eq (op : Int) : spec_l2Need op =
 bif (op == 1) then
 some (0, (1, 1))
else 
 bif (op == 2) then
 some (0, (1, 1))
else 
 bif (op == 20) then
 some (0, (2, 2))
else 
 bif (op == 13) then
 some (1, (1, 1))
else 
 bif (op == 19) then
 some (1, (2, 2))
else 
(spec_l1In op 3 12).bind fun r =>
 bif r then
 some (2, (1, 1))
else 
(spec_l1In op 14 16).bind fun r1 =>
 bif r1 then
 some (2, (1, 2))
else 
 bif (op == 17) then
 some (2, (2, 2))
else 
 bif (op == 18) then
 some (2, (2, 2))
else 
 some (0, (0, 0)) := Eq.trans (inf_call_eq (H := H) 207 op) (by kernel_rfl)
theorem spec_l1Cut_L0_eq (wide : Int) (a : Int) (out : Int) (k_ : Int) : spec_l1Cut_L0 wide a out k_ =
 bif decide (k_ < wide) then
 bif decide ((IntKind.u64.wrap k_) < 0) then
 none
else 
(spec_l1Cut_L0 wide a (bOr .u64 out (bAnd .u64 a (bShl .u64 1 (IntKind.u64.wrap k_)))) (IntKind.i64.wrap (k_ + 1))).bind fun r => some r
else 
 some out := Eq.trans (inf_loop_eq (H := H) 208 0 (loopCode Tryz.f208 0) (wide, (a, (out, k_))) key_spec_l1Cut) (by kernel_rfl)
theorem spec_l1Cut_eq (wide : Int) (a : Int) : spec_l1Cut wide a =
(spec_l1Cut_L0 wide a 0 0).bind fun r =>
 some r := Eq.trans (inf_call_eq (H := H) 208 (wide, a)) (by kernel_rfl)
theorem spec_GoodWord_eq (wide : Int) (a : Int) : spec_GoodWord wide a =
(spec_l1Wide wide).bind fun r =>
 bif r then
(spec_l1Cut wide a).bind fun r1 =>
 some (r1 == a)
else 
 some false := Eq.trans (inf_call_eq (H := H) 280 (wide, a)) (by kernel_rfl)
theorem spec_l2N_eq (wide : Int) (vars : Int) (n : DNode) : spec_l2N wide vars n =
 bif (n.1 == 1) then
(spec_GoodWord wide n.2).bind fun r =>
 some r
else 
 bif (n.1 == 2) then
 some (decide (n.2 < (IntKind.u64.wrap vars)))
else 
 bif (n.1 == 20) then
 some (decide (n.2 < 2))
else 
 some (n.2 == 0) := Eq.trans (inf_call_eq (H := H) 248 (wide, (vars, n))) (by kernel_rfl)
theorem spec_l2Kind_L0_eq (wide : Int) (vars : Int) (pile : Bool × List Int) (t27 : Bool × List DNode) (t28 : Int) (t29 : Int) : spec_l2Kind_L0 wide vars pile t27 t28 t29 =
 bif decide (t29 < t28) then
 bif decide (0 ≤ t29) then
 bif decide (t29 < (t27.2.length : Int)) then
(spec_l2Need ((t27.2.getD (Int.toNat t29) (0, 0)).1)).bind fun r =>
 bif (r.2.2 == 0) then
 some (.inl 0)
else 
(spec_l2N wide vars (t27.2.getD (Int.toNat t29) (0, 0))).bind fun r1 =>
 bif !r1 then
 some (.inl 0)
else 
 bif decide ((pile.2.length : Int) < r.1) then
 some (.inl 0)
else 
(spec_l2Kind_L2 wide vars (pile.1, pile.2) r.1 r.2.1 r.2.2 t27 t28 t29).bind fun r2 =>
 match r2 with
| .inl y =>
 some (.inl y)
| .inr z =>
 bif decide (z.2.length + [r.2.2].length ≤ lim) then
(spec_l2Kind_L0 wide vars ((z.1 && false), (z.2 ++ [r.2.2])) t27 t28 (IntKind.i64.wrap (t29 + 1))).bind fun r => some r
else none
else none
else none
else 
 some (.inr (pile.1, pile.2)) := Eq.trans (inf_loop_eq (H := H) 194 0 (loopCode Tryz.f194 0) (wide, (vars, (pile, (t27, (t28, t29))))) key_spec_l2Kind) (by kernel_rfl)
theorem spec_l2Kind_L2_eq (wide : Int) (vars : Int) (pile : Bool × List Int) (many : Int) (part : Int) (own : Int) (t27 : Bool × List DNode) (t28 : Int) (t29 : Int) : spec_l2Kind_L2 wide vars pile many part own t27 t28 t29 =
 bif decide (many > 0) then
 bif decide (0 ≤ (IntKind.i64.wrap ((pile.2.length : Int) - 1))) then
 bif decide ((IntKind.i64.wrap ((pile.2.length : Int) - 1)) < (pile.2.length : Int)) then
 bif ((pile.2.getD (Int.toNat (IntKind.i64.wrap ((pile.2.length : Int) - 1))) 0) != part) then
 some (.inl 0)
else 
 bif decide (0 ≤ (IntKind.i64.wrap ((pile.2.length : Int) - 1))) then
 bif decide ((IntKind.i64.wrap ((pile.2.length : Int) - 1)) ≤ (pile.2.length : Int)) then
(spec_l2Kind_L2 wide vars (pile.1, ((pile.2.take (Int.toNat (IntKind.i64.wrap ((pile.2.length : Int) - 1)))).drop 0)) (IntKind.i64.wrap (many - 1)) part own t27 t28 t29).bind fun r => some r
else none
else none
else none
else none
else 
 some (.inr (pile.1, pile.2)) := Eq.trans (inf_loop_eq (H := H) 194 2 (loopCode Tryz.f194 2) (wide, (vars, (pile, (many, (part, (own, (t27, (t28, t29)))))))) key_spec_l2Kind) (by kernel_rfl)
theorem spec_l2Kind_eq (wide : Int) (vars : Int) (t : Bool × List DNode) : spec_l2Kind wide vars t =
(spec_l1Wide wide).bind fun r =>
 bif !r then
 some 0
else 
(spec_l1In vars 1 4).bind fun r1 =>
 bif !r1 then
 some 0
else 
(spec_l1In (t.2.length : Int) 1 48).bind fun r2 =>
 bif !r2 then
 some 0
else 
(spec_l2Kind_L0 wide vars (true, []) t (t.2.length : Int) 0).bind fun r3 =>
 match r3 with
| .inl y =>
 some y
| .inr z =>
 bif ((z.2.length : Int) != 1) then
 some 0
else 
 bif decide (0 < (z.2.length : Int)) then
 some (z.2.getD 0 0)
else none := Eq.trans (inf_call_eq (H := H) 194 (wide, (vars, t))) (by kernel_rfl)
theorem spec_l7Asks_eq (p : DProgram) (t : Bool × List DNode) : spec_l7Asks p t =
(spec_l2Kind p.1 p.2.1 t).bind fun r =>
 some (r == 2) := Eq.trans (inf_call_eq (H := H) 119 (p, t)) (by kernel_rfl)
theorem spec_l7Command_L0_eq (p : DProgram) (c : DCommand) (t21 : Bool × List DChange) (t22 : Int) (t23 : Int) : spec_l7Command_L0 p c t21 t22 t23 =
 bif decide (t23 < t22) then
 bif decide (0 ≤ t23) then
 bif decide (t23 < (t21.2.length : Int)) then
(spec_l1In ((t21.2.getD (Int.toNat t23) (0, (true, []))).1) 0 (IntKind.i64.wrap (p.2.1 - 1))).bind fun r =>
 bif !r then
 some (.inl false)
else 
 bif decide (t23 > 0) then
 bif decide (0 ≤ (IntKind.i64.wrap (t23 - 1))) then
 bif decide ((IntKind.i64.wrap (t23 - 1)) < (c.2.2.length : Int)) then
 bif decide (((c.2.2.getD (Int.toNat (IntKind.i64.wrap (t23 - 1))) (0, (true, []))).1) ≥ ((t21.2.getD (Int.toNat t23) (0, (true, []))).1)) then
 some (.inl false)
else 
(spec_l2Kind p.1 p.2.1 ((t21.2.getD (Int.toNat t23) (0, (true, []))).2)).bind fun r1 =>
 bif (r1 != 1) then
 some (.inl false)
else 
(spec_l7Command_L0 p c t21 t22 (IntKind.i64.wrap (t23 + 1))).bind fun r => some r
else none
else none
else 
(spec_l2Kind p.1 p.2.1 ((t21.2.getD (Int.toNat t23) (0, (true, []))).2)).bind fun r2 =>
 bif (r2 != 1) then
 some (.inl false)
else 
(spec_l7Command_L0 p c t21 t22 (IntKind.i64.wrap (t23 + 1))).bind fun r => some r
else none
else none
else 
 some (.inr ()) := Eq.trans (inf_loop_eq (H := H) 244 0 (loopCode Tryz.f244 0) (p, (c, (t21, (t22, t23)))) key_spec_l7Command) (by kernel_rfl)
theorem spec_l7Command_eq (p : DProgram) (c : DCommand) : spec_l7Command p c =
(spec_l7Asks p c.1).bind fun r =>
 bif !r then
 some false
else 
 bif decide ((c.2.2.length : Int) > p.2.1) then
 some false
else 
(spec_l7Command_L0 p c c.2 (c.2.2.length : Int) 0).bind fun r1 =>
 match r1 with
| .inl y =>
 some y
| .inr z =>
 some true := Eq.trans (inf_call_eq (H := H) 244 (p, c)) (by kernel_rfl)
theorem spec_GoodProgram_L0_eq (p : DProgram) (t18 : Bool × List DCommand) (t19 : Int) (t20 : Int) : spec_GoodProgram_L0 p t18 t19 t20 =
 bif decide (t20 < t19) then
 bif decide (0 ≤ t20) then
 bif decide (t20 < (t18.2.length : Int)) then
(spec_l7Command p (t18.2.getD (Int.toNat t20) ((true, []), (true, [])))).bind fun r =>
 bif !r then
 some (.inl false)
else 
(spec_GoodProgram_L0 p t18 t19 (IntKind.i64.wrap (t20 + 1))).bind fun r => some r
else none
else none
else 
 some (.inr ()) := Eq.trans (inf_loop_eq (H := H) 191 0 (loopCode Tryz.f191 0) (p, (t18, (t19, t20))) key_spec_GoodProgram) (by kernel_rfl)
theorem spec_GoodProgram_eq (p : DProgram) : spec_GoodProgram p =
(spec_l7Asks p p.2.2.1).bind fun r =>
 bif !r then
 some false
else 
(spec_l1In (p.2.2.2.2.length : Int) 1 6).bind fun r1 =>
 bif !r1 then
 some false
else 
(spec_GoodProgram_L0 p p.2.2.2 (p.2.2.2.2.length : Int) 0).bind fun r2 =>
 match r2 with
| .inl y =>
 some y
| .inr z =>
 some true := Eq.trans (inf_call_eq (H := H) 191 p) (by kernel_rfl)
theorem spec_l7Small_eq (p : DProgram) : spec_l7Small p =
(spec_GoodProgram p).bind fun r =>
 bif r then
 some (decide ((IntKind.i64.wrap (p.1 * p.2.1)) ≤ 5))
else 
 some false := Eq.trans (inf_call_eq (H := H) 117 p) (by kernel_rfl)
theorem spec_l10Need_eq (op : Int) : spec_l10Need op =
 bif (op == 1) then
 bif (op == 1) then
 some 0
else 
 bif (op == 3) then
 bif (op == 3) then
 some 1
else 
 bif (op == 5) then
 bif (op == 5) then
 some 2
else 
 some (-1)
else 
 bif (op == 6) then
 bif (op == 6) then
 some 2
else 
 some (-1)
else 
 bif (op == 7) then
 bif (op == 7) then
 some 2
else 
 some (-1)
else 
 bif (op == 8) then
 some 2
else 
 some (-1)
else 
 bif (op == 4) then
 some 1
else 
 bif (op == 5) then
 bif (op == 5) then
 some 2
else 
 some (-1)
else 
 bif (op == 6) then
 bif (op == 6) then
 some 2
else 
 some (-1)
else 
 bif (op == 7) then
 bif (op == 7) then
 some 2
else 
 some (-1)
else 
 bif (op == 8) then
 some 2
else 
 some (-1)
else 
 bif (op == 2) then
 some 0
else 
 bif (op == 3) then
 bif (op == 3) then
 some 1
else 
 bif (op == 5) then
 bif (op == 5) then
 some 2
else 
 some (-1)
else 
 bif (op == 6) then
 bif (op == 6) then
 some 2
else 
 some (-1)
else 
 bif (op == 7) then
 bif (op == 7) then
 some 2
else 
 some (-1)
else 
 bif (op == 8) then
 some 2
else 
 some (-1)
else 
 bif (op == 4) then
 some 1
else 
 bif (op == 5) then
 bif (op == 5) then
 some 2
else 
 some (-1)
else 
 bif (op == 6) then
 bif (op == 6) then
 some 2
else 
 some (-1)
else 
 bif (op == 7) then
 bif (op == 7) then
 some 2
else 
 some (-1)
else 
 bif (op == 8) then
 some 2
else 
 some (-1) := Eq.trans (inf_call_eq (H := H) 245 op) (by kernel_rfl)
theorem spec_l10N_eq (n : DSaid) : spec_l10N n =
 bif (n.1 == 1) then
(spec_l1In n.2 0 2).bind fun r =>
 some r
else 
 bif (n.1 == 2) then
(spec_l1In n.2 0 1).bind fun r1 =>
 some r1
else 
 some (n.2 == 0) := Eq.trans (inf_call_eq (H := H) 246 n) (by kernel_rfl)
theorem spec_GoodSaid_L0_eq (pile : Int) (t11 : Bool × List DSaid) (t12 : Int) (t13 : Int) : spec_GoodSaid_L0 pile t11 t12 t13 =
 bif decide (t13 < t12) then
 bif decide (0 ≤ t13) then
 bif decide (t13 < (t11.2.length : Int)) then
(spec_l10Need ((t11.2.getD (Int.toNat t13) (0, 0)).1)).bind fun r =>
 bif decide (r < 0) then
 some (.inl false)
else 
(spec_l10N (t11.2.getD (Int.toNat t13) (0, 0))).bind fun r1 =>
 bif !r1 then
 some (.inl false)
else 
 bif decide (pile < r) then
 some (.inl false)
else 
(spec_GoodSaid_L0 (IntKind.i64.wrap (pile + (IntKind.i64.wrap (1 - r)))) t11 t12 (IntKind.i64.wrap (t13 + 1))).bind fun r => some r
else none
else none
else 
 some (.inr pile) := Eq.trans (inf_loop_eq (H := H) 192 0 (loopCode Tryz.f192 0) (pile, (t11, (t12, t13))) key_spec_GoodSaid) (by kernel_rfl)
theorem spec_GoodSaid_eq (f : Bool × List DSaid) : spec_GoodSaid f =
(spec_l1In (f.2.length : Int) 1 16).bind fun r =>
 bif !r then
 some false
else 
(spec_GoodSaid_L0 0 f (f.2.length : Int) 0).bind fun r1 =>
 match r1 with
| .inl y =>
 some y
| .inr z =>
 some (z == 1) := Eq.trans (inf_call_eq (H := H) 192 f) (by kernel_rfl)
theorem spec_l1Put_L0_eq (l : Bool × List Int) (n : Int) (k_ : Int) : spec_l1Put_L0 l n k_ =
 bif decide (k_ < (l.2.length : Int)) then
 bif decide (0 ≤ k_) then
 bif decide (k_ < (l.2.length : Int)) then
 bif decide ((l.2.getD (Int.toNat k_) 0) < n) then
(spec_l1Put_L0 l n (IntKind.i64.wrap (k_ + 1))).bind fun r => some r
else 
 some k_
else none
else none
else 
 some k_ := Eq.trans (inf_loop_eq (H := H) 141 0 (loopCode Tryz.f141 0) (l, (n, k_)) key_spec_l1Put) (by kernel_rfl)
theorem spec_l1Put_eq (l : Bool × List Int) (n : Int) : spec_l1Put l n =
(spec_l1Put_L0 l n 0).bind fun r =>
 bif decide (r < (l.2.length : Int)) then
 bif decide (0 ≤ r) then
 bif decide (r < (l.2.length : Int)) then
 bif ((l.2.getD (Int.toNat r) 0) == n) then
 some l
else 
 bif decide (0 ≤ r) then
 bif decide (r ≤ (l.2.length : Int)) then
 bif decide (([] : List Int).length + ((l.2.take (Int.toNat r)).drop 0).length ≤ lim) then
 bif decide (([] ++ ((l.2.take (Int.toNat r)).drop 0)).length + [n].length ≤ lim) then
 bif decide (0 ≤ r) then
 bif decide (r ≤ (l.2.length : Int)) then
 bif decide ((([] ++ ((l.2.take (Int.toNat r)).drop 0)) ++ [n]).length + ((l.2.take l.2.length).drop (Int.toNat r)).length ≤ lim) then
 some (false, ((([] ++ ((l.2.take (Int.toNat r)).drop 0)) ++ [n]) ++ ((l.2.take l.2.length).drop (Int.toNat r))))
else none
else none
else none
else none
else none
else none
else none
else none
else none
else 
 bif decide (0 ≤ r) then
 bif decide (r ≤ (l.2.length : Int)) then
 bif decide (([] : List Int).length + ((l.2.take (Int.toNat r)).drop 0).length ≤ lim) then
 bif decide (([] ++ ((l.2.take (Int.toNat r)).drop 0)).length + [n].length ≤ lim) then
 bif decide (0 ≤ r) then
 bif decide (r ≤ (l.2.length : Int)) then
 bif decide ((([] ++ ((l.2.take (Int.toNat r)).drop 0)) ++ [n]).length + ((l.2.take l.2.length).drop (Int.toNat r)).length ≤ lim) then
 some (false, ((([] ++ ((l.2.take (Int.toNat r)).drop 0)) ++ [n]) ++ ((l.2.take l.2.length).drop (Int.toNat r))))
else none
else none
else none
else none
else none
else none
else none := Eq.trans (inf_call_eq (H := H) 141 (l, n)) (by kernel_rfl)
theorem spec_l13Tracked_L0_eq (out : Bool × List Int) (t10 : Bool × List DSaid) (t11 : Int) (t12 : Int) : spec_l13Tracked_L0 out t10 t11 t12 =
 bif decide (t12 < t11) then
 bif decide (0 ≤ t12) then
 bif decide (t12 < (t10.2.length : Int)) then
 bif (((t10.2.getD (Int.toNat t12) (0, 0)).1) == 7) then
 bif (((t10.2.getD (Int.toNat t12) (0, 0)).1) == 7) then
(spec_l1Put out t12).bind fun r =>
(spec_l1Put r (IntKind.i64.wrap (t12 - 1))).bind fun r1 =>
(spec_l13Tracked_L0 r1 t10 t11 (IntKind.i64.wrap (t12 + 1))).bind fun r => some r
else 
 bif (((t10.2.getD (Int.toNat t12) (0, 0)).1) == 4) then
(spec_l1Put out (IntKind.i64.wrap (t12 - 1))).bind fun r2 =>
(spec_l13Tracked_L0 r2 t10 t11 (IntKind.i64.wrap (t12 + 1))).bind fun r => some r
else 
(spec_l13Tracked_L0 out t10 t11 (IntKind.i64.wrap (t12 + 1))).bind fun r => some r
else 
 bif (((t10.2.getD (Int.toNat t12) (0, 0)).1) == 8) then
(spec_l1Put out t12).bind fun r3 =>
(spec_l1Put r3 (IntKind.i64.wrap (t12 - 1))).bind fun r4 =>
(spec_l13Tracked_L0 r4 t10 t11 (IntKind.i64.wrap (t12 + 1))).bind fun r => some r
else 
 bif (((t10.2.getD (Int.toNat t12) (0, 0)).1) == 4) then
(spec_l1Put out (IntKind.i64.wrap (t12 - 1))).bind fun r5 =>
(spec_l13Tracked_L0 r5 t10 t11 (IntKind.i64.wrap (t12 + 1))).bind fun r => some r
else 
(spec_l13Tracked_L0 out t10 t11 (IntKind.i64.wrap (t12 + 1))).bind fun r => some r
else none
else none
else 
 some out := Eq.trans (inf_loop_eq (H := H) 193 0 (loopCode Tryz.f193 0) (out, (t10, (t11, t12))) key_spec_l13Tracked) (by kernel_rfl)
theorem spec_l13Tracked_eq (f : Bool × List DSaid) : spec_l13Tracked f =
(spec_l13Tracked_L0 (false, [IntKind.i64.wrap ((f.2.length : Int) - 1)]) f (f.2.length : Int) 0).bind fun r =>
 some r := Eq.trans (inf_call_eq (H := H) 193 f) (by kernel_rfl)
theorem spec_l13Good_eq (f : Bool × List DSaid) : spec_l13Good f =
(spec_GoodSaid f).bind fun r =>
 bif r then
(spec_l13Tracked f).bind fun r1 =>
 some (decide ((r1.2.length : Int) ≤ 5))
else 
 some false := Eq.trans (inf_call_eq (H := H) 118 f) (by kernel_rfl)
theorem spec_GoodQuestion_L0_eq (q : DQuestion) (t22 : Bool × List (Bool × List DNode)) (t23 : Int) (t24 : Int) : spec_GoodQuestion_L0 q t22 t23 t24 =
 bif decide (t24 < t23) then
 bif decide (0 ≤ t24) then
 bif decide (t24 < (t22.2.length : Int)) then
(spec_l7Asks q.1 (t22.2.getD (Int.toNat t24) (true, []))).bind fun r =>
 bif !r then
 some (.inl false)
else 
(spec_GoodQuestion_L0 q t22 t23 (IntKind.i64.wrap (t24 + 1))).bind fun r => some r
else none
else none
else 
 some (.inr ()) := Eq.trans (inf_loop_eq (H := H) 60 0 (loopCode Tryz.f60 0) (q, (t22, (t23, t24))) key_spec_GoodQuestion) (by kernel_rfl)
theorem spec_GoodQuestion_eq (q : DQuestion) : spec_GoodQuestion q =
(spec_l7Small q.1).bind fun r =>
 bif !r then
 some false
else 
 bif ((q.2.1.2.length : Int) != 3) then
 some false
else 
(spec_l13Good q.2.2).bind fun r1 =>
 bif !r1 then
 some false
else 
(spec_GoodQuestion_L0 q q.2.1 (q.2.1.2.length : Int) 0).bind fun r2 =>
 match r2 with
| .inl y =>
 some y
| .inr z =>
 some true := Eq.trans (inf_call_eq (H := H) 60 q) (by kernel_rfl)
theorem spec_l7Many_eq (p : DProgram) : spec_l7Many p =
 bif decide ((IntKind.u64.wrap (IntKind.i64.wrap (p.1 * p.2.1))) < 0) then
 none
else 
 some (bShl .i64 1 (IntKind.u64.wrap (IntKind.i64.wrap (p.1 * p.2.1)))) := Eq.trans (inf_call_eq (H := H) 79 p) (by kernel_rfl)
theorem spec_l1All_L0_eq (lo : Int) (hi : Int) (t9 : Bool × List Int) (t10 : Int) (t11 : Int) : spec_l1All_L0 lo hi t9 t10 t11 =
 bif decide (t11 < t10) then
 bif decide (0 ≤ t11) then
 bif decide (t11 < (t9.2.length : Int)) then
(spec_l1In (t9.2.getD (Int.toNat t11) 0) lo hi).bind fun r =>
 bif !r then
 some (.inl false)
else 
(spec_l1All_L0 lo hi t9 t10 (IntKind.i64.wrap (t11 + 1))).bind fun r => some r
else none
else none
else 
 some (.inr ()) := Eq.trans (inf_loop_eq (H := H) 138 0 (loopCode Tryz.f138 0) (lo, (hi, (t9, (t10, t11)))) key_spec_l1All) (by kernel_rfl)
theorem spec_l1All_eq (l : Bool × List Int) (lo : Int) (hi : Int) : spec_l1All l lo hi =
(spec_l1All_L0 lo hi l (l.2.length : Int) 0).bind fun r =>
 match r with
| .inl y =>
 some y
| .inr z =>
 some true := Eq.trans (inf_call_eq (H := H) 138 (l, (lo, hi))) (by kernel_rfl)
theorem spec_l14States_eq (q : DQuestion) (l : Bool × List Int) : spec_l14States q l =
 bif decide ((l.2.length : Int) ≤ 2000) then
(spec_l7Many q.1).bind fun r =>
(spec_l1All l 0 (IntKind.i64.wrap (r - 1))).bind fun r1 =>
 some r1
else 
 some false := Eq.trans (inf_call_eq (H := H) 78 (q, l)) (by kernel_rfl)
theorem spec_l14Told_eq (q : DQuestion) (stem : Bool × List Int) (loop : Bool × List Int) : spec_l14Told q stem loop =
(spec_GoodQuestion q).bind fun r =>
 bif r then
(spec_l14States q stem).bind fun r1 =>
 bif r1 then
(spec_l14States q loop).bind fun r2 =>
 bif r2 then
 some (decide ((loop.2.length : Int) > 0))
else 
 some false
else 
 some false
else 
 some false := Eq.trans (inf_call_eq (H := H) 33 (q, (stem, loop))) (by kernel_rfl)
theorem spec_l7Of_L0_eq (no : Int) (p : DProgram) (out : Bool × List Int) (v : Int) : spec_l7Of_L0 no p out v =
 bif decide (v < p.2.1) then
 bif decide ((IntKind.u64.wrap (IntKind.i64.wrap (v * p.1))) < 0) then
 none
else 
 bif decide ((IntKind.u64.wrap p.1) < 0) then
 none
else 
 bif decide (out.2.length + [IntKind.u64.wrap (bAnd .i64 (bShr .i64 no (IntKind.u64.wrap (IntKind.i64.wrap (v * p.1)))) (IntKind.i64.wrap ((bShl .i64 1 (IntKind.u64.wrap p.1)) - 1)))].length ≤ lim) then
(spec_l7Of_L0 no p ((out.1 && false), (out.2 ++ [IntKind.u64.wrap (bAnd .i64 (bShr .i64 no (IntKind.u64.wrap (IntKind.i64.wrap (v * p.1)))) (IntKind.i64.wrap ((bShl .i64 1 (IntKind.u64.wrap p.1)) - 1)))])) (IntKind.i64.wrap (v + 1))).bind fun r => some r
else none
else 
 some (out.1, out.2) := Eq.trans (inf_loop_eq (H := H) 81 0 (loopCode Tryz.f81 0) (no, (p, (out, v))) key_spec_l7Of) (by kernel_rfl)
theorem spec_l7Of_eq (p : DProgram) (no : Int) : spec_l7Of p no =
(spec_l7Of_L0 no p (true, []) 0).bind fun r =>
 some (r.1, r.2) := Eq.trans (inf_call_eq (H := H) 81 (p, no)) (by kernel_rfl)
theorem spec_l2From_L0_eq (t : Bool × List DNode) (many : Int) (from_ : Int) : spec_l2From_L0 t many from_ =
 bif decide (many > 0) then
(spec_l2From t (IntKind.i64.wrap (from_ - 1))).bind fun r =>
(spec_l2From_L0 t (IntKind.i64.wrap (many - 1)) r).bind fun r => some r
else 
 some from_ := Eq.trans (inf_loop_eq (H := H) 210 0 (loopCode Tryz.f210 0) (t, (many, from_)) key_spec_l2From) (by kernel_rfl)
theorem spec_l2From_eq (t : Bool × List DNode) (k_ : Int) : spec_l2From t k_ =
 bif decide (0 ≤ k_) then
 bif decide (k_ < (t.2.length : Int)) then
(spec_l2Need ((t.2.getD (Int.toNat k_) (0, 0)).1)).bind fun r =>
(spec_l2From_L0 t r.1 k_).bind fun r1 =>
 some r1
else none
else none := Eq.trans (inf_call_eq (H := H) 210 (t, k_)) (by kernel_rfl)
theorem spec_l1Both_eq (wide : Int) (a : Int) (b : Int) : spec_l1Both wide a b =
(spec_GoodWord wide a).bind fun r =>
 bif r then
(spec_GoodWord wide b).bind fun r1 =>
 some r1
else 
 some false := Eq.trans (inf_call_eq (H := H) 289 (wide, (a, b))) (by kernel_rfl)
theorem spec_DivWord_eq (wide : Int) (a : Int) (b : Int) : spec_DivWord wide a b =
(spec_l1Both wide a b).bind fun r =>
 bif !r then
 some (0, (0, false))
else 
 bif (b == 0) then
(spec_l1Cut wide 18446744073709551615).bind fun r1 =>
 some (r1, (a, true))
else 
 bif (b == 0) then
 none
else 
 bif (b == 0) then
 none
else 
 some (IntKind.u64.wrap (Int.tdiv a b), (Int.tmod a b, true)) := Eq.trans (inf_call_eq (H := H) 265 (wide, (a, b))) (by kernel_rfl)
theorem spec_l1Shift_L0_eq (wide : Int) (a : Int) (by_ : Int) (left_ : Bool) : spec_l1Shift_L0 wide a by_ left_ =
 bif decide (by_ > 0) then
 bif left_ then
(spec_l1Cut wide (bShl .u64 a 1)).bind fun r =>
(spec_l1Shift_L0 wide r (IntKind.u64.wrap (by_ - 1)) left_).bind fun r => some r
else 
(spec_l1Shift_L0 wide (bShr .u64 a 1) (IntKind.u64.wrap (by_ - 1)) left_).bind fun r => some r
else 
 some a := Eq.trans (inf_loop_eq (H := H) 266 0 (loopCode Tryz.f266 0) (wide, (a, (by_, left_))) key_spec_l1Shift) (by kernel_rfl)
theorem spec_l1Shift_eq (wide : Int) (a : Int) (by_ : Int) (left_ : Bool) : spec_l1Shift wide a by_ left_ =
 bif decide (by_ ≥ (IntKind.u64.wrap wide)) then
 some 0
else 
(spec_l1Shift_L0 wide a by_ left_).bind fun r =>
 some r := Eq.trans (inf_call_eq (H := H) 266 (wide, (a, (by_, left_)))) (by kernel_rfl)
theorem spec_l2Bool_eq (is : Bool) : spec_l2Bool is =
 bif is then
 some 1
else 
 some 0 := Eq.trans (inf_call_eq (H := H) 267 is) (by kernel_rfl)
theorem spec_l1Signed_eq (wide : Int) (a : Int) : spec_l1Signed wide a =
 bif decide ((IntKind.u64.wrap (IntKind.i64.wrap (wide - 1))) < 0) then
 none
else 
 bif ((bAnd .u64 (bShr .u64 a (IntKind.u64.wrap (IntKind.i64.wrap (wide - 1)))) 1) == 1) then
(spec_l1Cut wide 18446744073709551615).bind fun r =>
 some (IntKind.i64.wrap (bOr .u64 a (bXor .u64 18446744073709551615 r)))
else 
 some (IntKind.i64.wrap a) := Eq.trans (inf_call_eq (H := H) 268 (wide, a)) (by kernel_rfl)
theorem spec_l2Do_eq (wide : Int) (op : Int) (a : Int) (b : Int) : spec_l2Do wide op a b =
(spec_DivWord wide a b).bind fun r =>
 bif (op == 3) then
(spec_l1Cut wide (IntKind.u64.wrap (a + b))).bind fun r1 =>
 some r1
else 
 bif (op == 4) then
(spec_l1Cut wide (IntKind.u64.wrap (a - b))).bind fun r2 =>
 some r2
else 
 bif (op == 5) then
(spec_l1Cut wide (IntKind.u64.wrap (a * b))).bind fun r3 =>
 some r3
else 
 bif (op == 6) then
 some r.1
else 
 bif (op == 7) then
 some r.2.1
else 
 bif (op == 8) then
 bif (op == 8) then
 some (bAnd .u64 a b)
else 
 bif (op == 9) then
 bif (op == 9) then
 some (bOr .u64 a b)
else 
 bif (op == 10) then
 some (bXor .u64 a b)
else 
 bif (op == 11) then
(spec_l1Shift wide a b true).bind fun r4 =>
 some r4
else 
 bif (op == 12) then
(spec_l1Shift wide a b false).bind fun r5 =>
 some r5
else 
 bif (op == 14) then
(spec_l2Bool (a == b)).bind fun r6 =>
 some r6
else 
 bif (op == 15) then
(spec_l2Bool (decide (a < b))).bind fun r7 =>
 some r7
else 
 bif (op == 16) then
(spec_l1Signed wide a).bind fun r8 =>
(spec_l1Signed wide b).bind fun r9 =>
(spec_l2Bool (decide (r8 < r9))).bind fun r10 =>
 some r10
else 
 some 0
else 
 bif (op == 18) then
 some (bOr .u64 a b)
else 
 bif (op == 10) then
 some (bXor .u64 a b)
else 
 bif (op == 11) then
(spec_l1Shift wide a b true).bind fun r11 =>
 some r11
else 
 bif (op == 12) then
(spec_l1Shift wide a b false).bind fun r12 =>
 some r12
else 
 bif (op == 14) then
(spec_l2Bool (a == b)).bind fun r13 =>
 some r13
else 
 bif (op == 15) then
(spec_l2Bool (decide (a < b))).bind fun r14 =>
 some r14
else 
 bif (op == 16) then
(spec_l1Signed wide a).bind fun r15 =>
(spec_l1Signed wide b).bind fun r16 =>
(spec_l2Bool (decide (r15 < r16))).bind fun r17 =>
 some r17
else 
 some 0
else 
 bif (op == 17) then
 some (bAnd .u64 a b)
else 
 bif (op == 9) then
 bif (op == 9) then
 some (bOr .u64 a b)
else 
 bif (op == 10) then
 some (bXor .u64 a b)
else 
 bif (op == 11) then
(spec_l1Shift wide a b true).bind fun r18 =>
 some r18
else 
 bif (op == 12) then
(spec_l1Shift wide a b false).bind fun r19 =>
 some r19
else 
 bif (op == 14) then
(spec_l2Bool (a == b)).bind fun r20 =>
 some r20
else 
 bif (op == 15) then
(spec_l2Bool (decide (a < b))).bind fun r21 =>
 some r21
else 
 bif (op == 16) then
(spec_l1Signed wide a).bind fun r22 =>
(spec_l1Signed wide b).bind fun r23 =>
(spec_l2Bool (decide (r22 < r23))).bind fun r24 =>
 some r24
else 
 some 0
else 
 bif (op == 18) then
 some (bOr .u64 a b)
else 
 bif (op == 10) then
 some (bXor .u64 a b)
else 
 bif (op == 11) then
(spec_l1Shift wide a b true).bind fun r25 =>
 some r25
else 
 bif (op == 12) then
(spec_l1Shift wide a b false).bind fun r26 =>
 some r26
else 
 bif (op == 14) then
(spec_l2Bool (a == b)).bind fun r27 =>
 some r27
else 
 bif (op == 15) then
(spec_l2Bool (decide (a < b))).bind fun r28 =>
 some r28
else 
 bif (op == 16) then
(spec_l1Signed wide a).bind fun r29 =>
(spec_l1Signed wide b).bind fun r30 =>
(spec_l2Bool (decide (r29 < r30))).bind fun r31 =>
 some r31
else 
 some 0 := Eq.trans (inf_call_eq (H := H) 209 (wide, (op, (a, b)))) (by kernel_rfl)
theorem spec_l2Value_eq (wide : Int) (t : Bool × List DNode) (k_ : Int) (state : Bool × List Int) : spec_l2Value wide t k_ state =
 bif decide (0 ≤ k_) then
 bif decide (k_ < (t.2.length : Int)) then
(spec_l2Need ((t.2.getD (Int.toNat k_) (0, 0)).1)).bind fun r =>
 bif (((t.2.getD (Int.toNat k_) (0, 0)).1) == 2) then
 bif decide (0 ≤ ((t.2.getD (Int.toNat k_) (0, 0)).2)) then
 bif decide (((t.2.getD (Int.toNat k_) (0, 0)).2) < (state.2.length : Int)) then
 some (state.2.getD (Int.toNat ((t.2.getD (Int.toNat k_) (0, 0)).2)) 0)
else none
else none
else 
 bif (r.1 == 0) then
 some ((t.2.getD (Int.toNat k_) (0, 0)).2)
else 
 bif (((t.2.getD (Int.toNat k_) (0, 0)).1) == 13) then
(spec_l2Value wide t (IntKind.i64.wrap (k_ - 1)) state).bind fun r1 =>
(spec_l1Cut wide (bXor .u64 18446744073709551615 r1)).bind fun r2 =>
 some r2
else 
 bif (((t.2.getD (Int.toNat k_) (0, 0)).1) == 19) then
(spec_l2Value wide t (IntKind.i64.wrap (k_ - 1)) state).bind fun r3 =>
 some (IntKind.u64.wrap (1 - r3))
else 
(spec_l2From t (IntKind.i64.wrap (k_ - 1))).bind fun r4 =>
(spec_l2Value wide t (IntKind.i64.wrap (r4 - 1)) state).bind fun r5 =>
(spec_l2Value wide t (IntKind.i64.wrap (k_ - 1)) state).bind fun r6 =>
(spec_l2Do wide ((t.2.getD (Int.toNat k_) (0, 0)).1) r5 r6).bind fun r7 =>
 some r7
else none
else none := Eq.trans (inf_call_eq (H := H) 139 (wide, (t, (k_, state)))) (by kernel_rfl)
theorem spec_l7Holds_eq (p : DProgram) (t : Bool × List DNode) (s : Bool × List Int) : spec_l7Holds p t s =
(spec_l2Value p.1 t (IntKind.i64.wrap ((t.2.length : Int) - 1)) s).bind fun r =>
 some (r == 1) := Eq.trans (inf_call_eq (H := H) 80 (p, (t, s))) (by kernel_rfl)
theorem spec_l8Those_L0_eq (t : Bool × List DNode) (p : DProgram) (out : Bool × List Int) (no : Int) : spec_l8Those_L0 t p out no =
(spec_l7Many p).bind fun r =>
 bif decide (no < r) then
(spec_l7Of p no).bind fun r1 =>
(spec_l7Holds p t (r1.1, r1.2)).bind fun r2 =>
 bif r2 then
 bif decide (out.2.length + [no].length ≤ lim) then
(spec_l8Those_L0 t p ((out.1 && false), (out.2 ++ [no])) (IntKind.i64.wrap (no + 1))).bind fun r => some r
else none
else 
(spec_l8Those_L0 t p (out.1, out.2) (IntKind.i64.wrap (no + 1))).bind fun r => some r
else 
 some (out.1, out.2) := Eq.trans (inf_loop_eq (H := H) 35 0 (loopCode Tryz.f35 0) (t, (p, (out, no))) key_spec_l8Those) (by kernel_rfl)
theorem spec_l8Those_eq (p : DProgram) (t : Bool × List DNode) : spec_l8Those p t =
(spec_l8Those_L0 t p (true, []) 0).bind fun r =>
 some (r.1, r.2) := Eq.trans (inf_call_eq (H := H) 35 (p, t)) (by kernel_rfl)
theorem spec_l1Has_L0_eq (n : Int) (t7 : Bool × List Int) (t8 : Int) (t9 : Int) : spec_l1Has_L0 n t7 t8 t9 =
 bif decide (t9 < t8) then
 bif decide (0 ≤ t9) then
 bif decide (t9 < (t7.2.length : Int)) then
 bif ((t7.2.getD (Int.toNat t9) 0) == n) then
 some (.inl true)
else 
(spec_l1Has_L0 n t7 t8 (IntKind.i64.wrap (t9 + 1))).bind fun r => some r
else none
else none
else 
 some (.inr ()) := Eq.trans (inf_loop_eq (H := H) 34 0 (loopCode Tryz.f34 0) (n, (t7, (t8, t9))) key_spec_l1Has) (by kernel_rfl)
theorem spec_l1Has_eq (l : Bool × List Int) (n : Int) : spec_l1Has l n =
(spec_l1Has_L0 n l (l.2.length : Int) 0).bind fun r =>
 match r with
| .inl y =>
 some y
| .inr z =>
 some false := Eq.trans (inf_call_eq (H := H) 34 (l, n)) (by kernel_rfl)
theorem spec_l1Own_eq (l : Bool × List Int) : spec_l1Own l =
 bif decide (([] : List Int).length + l.2.length ≤ lim) then
 some (false, ([] ++ l.2))
else none := Eq.trans (inf_call_eq (H := H) 82 l) (by kernel_rfl)
theorem spec_l7Enabled_L0_eq (s : Bool × List Int) (p : DProgram) (out : Bool × List Int) (t9 : Bool × List DCommand) (t10 : Int) (t11 : Int) : spec_l7Enabled_L0 s p out t9 t10 t11 =
 bif decide (t11 < t10) then
 bif decide (0 ≤ t11) then
 bif decide (t11 < (t9.2.length : Int)) then
(spec_l7Holds p ((t9.2.getD (Int.toNat t11) ((true, []), (true, []))).1) s).bind fun r =>
 bif r then
 bif decide (out.2.length + [t11].length ≤ lim) then
(spec_l7Enabled_L0 s p ((out.1 && false), (out.2 ++ [t11])) t9 t10 (IntKind.i64.wrap (t11 + 1))).bind fun r => some r
else none
else 
(spec_l7Enabled_L0 s p (out.1, out.2) t9 t10 (IntKind.i64.wrap (t11 + 1))).bind fun r => some r
else none
else none
else 
 some (out.1, out.2) := Eq.trans (inf_loop_eq (H := H) 140 0 (loopCode Tryz.f140 0) (s, (p, (out, (t9, (t10, t11))))) key_spec_l7Enabled) (by kernel_rfl)
theorem spec_l7Enabled_eq (p : DProgram) (s : Bool × List Int) : spec_l7Enabled p s =
(spec_l7Enabled_L0 s p (true, []) p.2.2.2 (p.2.2.2.2.length : Int) 0).bind fun r =>
 some (r.1, r.2) := Eq.trans (inf_call_eq (H := H) 140 (p, s)) (by kernel_rfl)
theorem spec_l7Do_L0_eq (s : Bool × List Int) (p : DProgram) (out : Bool × List Int) (t18 : Bool × List DChange) (t19 : Int) (t20 : Int) : spec_l7Do_L0 s p out t18 t19 t20 =
 bif decide (t20 < t19) then
 bif decide (0 ≤ t20) then
 bif decide (t20 < (t18.2.length : Int)) then
(spec_l2Value p.1 ((t18.2.getD (Int.toNat t20) (0, (true, []))).2) (IntKind.i64.wrap (((((t18.2.getD (Int.toNat t20) (0, (true, []))).2).2).length : Int) - 1)) s).bind fun r =>
 bif decide (0 ≤ ((t18.2.getD (Int.toNat t20) (0, (true, []))).1)) then
 bif decide (((t18.2.getD (Int.toNat t20) (0, (true, []))).1) < (out.2.length : Int)) then
(spec_l7Do_L0 s p (out.1, (out.2.set (Int.toNat ((t18.2.getD (Int.toNat t20) (0, (true, []))).1)) r)) t18 t19 (IntKind.i64.wrap (t20 + 1))).bind fun r => some r
else none
else none
else none
else none
else 
 some (out.1, out.2) := Eq.trans (inf_loop_eq (H := H) 143 0 (loopCode Tryz.f143 0) (s, (p, (out, (t18, (t19, t20))))) key_spec_l7Do) (by kernel_rfl)
theorem spec_l7Do_eq (p : DProgram) (s : Bool × List Int) (k_ : Int) : spec_l7Do p s k_ =
 bif decide (([] : List Int).length + s.2.length ≤ lim) then
 bif decide (0 ≤ k_) then
 bif decide (k_ < (p.2.2.2.2.length : Int)) then
(spec_l7Do_L0 s p (false, ([] ++ s.2)) ((p.2.2.2.2.getD (Int.toNat k_) ((true, []), (true, []))).2) ((((p.2.2.2.2.getD (Int.toNat k_) ((true, []), (true, []))).2).2).length : Int) 0).bind fun r =>
 some (r.1, r.2)
else none
else none
else none := Eq.trans (inf_call_eq (H := H) 143 (p, (s, k_))) (by kernel_rfl)
theorem spec_l7No_L0_eq (s : Bool × List Int) (p : DProgram) (n : Int) (v : Int) : spec_l7No_L0 s p n v =
 bif decide (v ≥ 0) then
 bif decide ((IntKind.u64.wrap p.1) < 0) then
 none
else 
 bif decide (0 ≤ v) then
 bif decide (v < (s.2.length : Int)) then
(spec_l7No_L0 s p (IntKind.i64.wrap ((bShl .i64 n (IntKind.u64.wrap p.1)) + (IntKind.i64.wrap (s.2.getD (Int.toNat v) 0)))) (IntKind.i64.wrap (v - 1))).bind fun r => some r
else none
else none
else 
 some n := Eq.trans (inf_loop_eq (H := H) 142 0 (loopCode Tryz.f142 0) (s, (p, (n, v))) key_spec_l7No) (by kernel_rfl)
theorem spec_l7No_eq (p : DProgram) (s : Bool × List Int) : spec_l7No p s =
(spec_l7No_L0 s p 0 (IntKind.i64.wrap (p.2.1 - 1))).bind fun r =>
 some r := Eq.trans (inf_call_eq (H := H) 142 (p, s)) (by kernel_rfl)
theorem spec_l8Next_L0_eq (no : Int) (p : DProgram) (s : Bool × List Int) (out : Bool × List Int) (t14 : Bool × List Int) (t15 : Int) (t16 : Int) : spec_l8Next_L0 no p s out t14 t15 t16 =
 bif decide (t16 < t15) then
 bif decide (0 ≤ t16) then
 bif decide (t16 < (t14.2.length : Int)) then
(spec_l7Do p s (t14.2.getD (Int.toNat t16) 0)).bind fun r =>
(spec_l7No p (r.1, r.2)).bind fun r1 =>
(spec_l1Put out r1).bind fun r2 =>
(spec_l8Next_L0 no p s r2 t14 t15 (IntKind.i64.wrap (t16 + 1))).bind fun r => some r
else none
else none
else 
 some out := Eq.trans (inf_loop_eq (H := H) 83 0 (loopCode Tryz.f83 0) (no, (p, (s, (out, (t14, (t15, t16)))))) key_spec_l8Next) (by kernel_rfl)
theorem spec_l8Next_eq (p : DProgram) (no : Int) : spec_l8Next p no =
(spec_l7Of p no).bind fun r =>
(spec_l7Enabled p (r.1, r.2)).bind fun r1 =>
(spec_l8Next_L0 no p (r.1, r.2) (true, []) (r1.1, r1.2) (r1.2.length : Int) 0).bind fun r2 =>
 bif ((r2.2.length : Int) == 0) then
 some (false, [no])
else 
 some r2 := Eq.trans (inf_call_eq (H := H) 83 (p, no)) (by kernel_rfl)
theorem spec_l14IsRun_L0_eq (q : DQuestion) (all_ : Bool × List Int) (k_ : Int) : spec_l14IsRun_L0 q all_ k_ =
 bif decide (k_ < (all_.2.length : Int)) then
 bif decide (0 ≤ (IntKind.i64.wrap (k_ - 1))) then
 bif decide ((IntKind.i64.wrap (k_ - 1)) < (all_.2.length : Int)) then
(spec_l8Next q.1 (all_.2.getD (Int.toNat (IntKind.i64.wrap (k_ - 1))) 0)).bind fun r =>
 bif decide (0 ≤ k_) then
 bif decide (k_ < (all_.2.length : Int)) then
(spec_l1Has r (all_.2.getD (Int.toNat k_) 0)).bind fun r1 =>
 bif !r1 then
 some (.inl false)
else 
(spec_l14IsRun_L0 q all_ (IntKind.i64.wrap (k_ + 1))).bind fun r => some r
else none
else none
else none
else none
else 
 some (.inr ()) := Eq.trans (inf_loop_eq (H := H) 36 0 (loopCode Tryz.f36 0) (q, (all_, k_)) key_spec_l14IsRun) (by kernel_rfl)
theorem spec_l14IsRun_eq (q : DQuestion) (stem : Bool × List Int) (loop : Bool × List Int) : spec_l14IsRun q stem loop =
(spec_l1Own stem).bind fun r =>
 bif decide (r.2.length + loop.2.length ≤ lim) then
 bif decide (0 < (loop.2.length : Int)) then
 bif decide ((r.2 ++ loop.2).length + [(loop.2.getD 0 0)].length ≤ lim) then
(spec_l8Those q.1 q.1.2.2.1).bind fun r1 =>
 bif decide (0 < (((r.2 ++ loop.2) ++ [(loop.2.getD 0 0)]).length : Int)) then
(spec_l1Has (r1.1, r1.2) (((r.2 ++ loop.2) ++ [(loop.2.getD 0 0)]).getD 0 0)).bind fun r2 =>
 bif !r2 then
 some false
else 
(spec_l14IsRun_L0 q (((r.1 && loop.2.isEmpty) && false), ((r.2 ++ loop.2) ++ [(loop.2.getD 0 0)])) 1).bind fun r3 =>
 match r3 with
| .inl y =>
 some y
| .inr z =>
 some true
else none
else none
else none
else none := Eq.trans (inf_call_eq (H := H) 36 (q, (stem, loop))) (by kernel_rfl)
theorem spec_l14Letter_L0_eq (no : Int) (q : DQuestion) (out : Int) (t9 : Bool × List (Bool × List DNode)) (t10 : Int) (t11 : Int) : spec_l14Letter_L0 no q out t9 t10 t11 =
 bif decide (t11 < t10) then
 bif decide (0 ≤ t11) then
 bif decide (t11 < (t9.2.length : Int)) then
(spec_l7Of q.1 no).bind fun r =>
(spec_l7Holds q.1 (t9.2.getD (Int.toNat t11) (true, [])) (r.1, r.2)).bind fun r1 =>
 bif r1 then
 bif decide ((IntKind.u64.wrap t11) < 0) then
 none
else 
(spec_l14Letter_L0 no q (bOr .i64 out (bShl .i64 1 (IntKind.u64.wrap t11))) t9 t10 (IntKind.i64.wrap (t11 + 1))).bind fun r => some r
else 
(spec_l14Letter_L0 no q out t9 t10 (IntKind.i64.wrap (t11 + 1))).bind fun r => some r
else none
else none
else 
 some out := Eq.trans (inf_loop_eq (H := H) 86 0 (loopCode Tryz.f86 0) (no, (q, (out, (t9, (t10, t11))))) key_spec_l14Letter) (by kernel_rfl)
theorem spec_l14Letter_eq (q : DQuestion) (no : Int) : spec_l14Letter q no =
(spec_l14Letter_L0 no q 0 q.2.1 (q.2.1.2.length : Int) 0).bind fun r =>
 some r := Eq.trans (inf_call_eq (H := H) 86 (q, no)) (by kernel_rfl)
theorem spec_l14Word_L0_eq (loop : Bool × List Int) (q : DQuestion) (t6 : DLasso) (out_0 : Bool × List Int) (out_1 : Bool × List Int) (t12 : Bool × List Int) (t13 : Int) (t14 : Int) : spec_l14Word_L0 loop q t6 out_0 out_1 t12 t13 t14 =
 bif decide (t14 < t13) then
 bif decide (0 ≤ t14) then
 bif decide (t14 < (t12.2.length : Int)) then
(spec_l14Letter q (t12.2.getD (Int.toNat t14) 0)).bind fun r =>
 bif decide (out_0.2.length + [r].length ≤ lim) then
(spec_l14Word_L0 loop q t6 ((out_0.1 && false), (out_0.2 ++ [r])) (out_1.1, out_1.2) t12 t13 (IntKind.i64.wrap (t14 + 1))).bind fun r => some r
else none
else none
else none
else 
 some ((out_0.1, out_0.2), (out_1.1, out_1.2)) := Eq.trans (inf_loop_eq (H := H) 38 0 (loopCode Tryz.f38 0) (loop, (q, (t6, (out_0, (out_1, (t12, (t13, t14))))))) key_spec_l14Word) (by kernel_rfl)
theorem spec_l14Word_L2_eq (q : DQuestion) (t6 : DLasso) (out_0 : Bool × List Int) (out_1 : Bool × List Int) (t27 : Bool × List Int) (t28 : Int) (t29 : Int) : spec_l14Word_L2 q t6 out_0 out_1 t27 t28 t29 =
 bif decide (t29 < t28) then
 bif decide (0 ≤ t29) then
 bif decide (t29 < (t27.2.length : Int)) then
(spec_l14Letter q (t27.2.getD (Int.toNat t29) 0)).bind fun r =>
 bif decide (out_1.2.length + [r].length ≤ lim) then
(spec_l14Word_L2 q t6 (out_0.1, out_0.2) ((out_1.1 && false), (out_1.2 ++ [r])) t27 t28 (IntKind.i64.wrap (t29 + 1))).bind fun r => some r
else none
else none
else none
else 
 some ((out_0.1, out_0.2), (out_1.1, out_1.2)) := Eq.trans (inf_loop_eq (H := H) 38 2 (loopCode Tryz.f38 2) (q, (t6, (out_0, (out_1, (t27, (t28, t29)))))) key_spec_l14Word) (by kernel_rfl)
theorem spec_l14Word_eq (q : DQuestion) (stem : Bool × List Int) (loop : Bool × List Int) : spec_l14Word q stem loop =
(spec_l14Word_L0 loop q ((true, []), (true, [])) (true, []) (true, []) stem (stem.2.length : Int) 0).bind fun r =>
(spec_l14Word_L2 q ((true, []), (true, [])) (r.1.1, r.1.2) (r.2.1, r.2.2) loop (loop.2.length : Int) 0).bind fun r1 =>
 some ((r1.1.1, r1.1.2), (r1.2.1, r1.2.2)) := Eq.trans (inf_call_eq (H := H) 38 (q, (stem, loop))) (by kernel_rfl)
theorem spec_l9At_eq (l : DLasso) (k_ : Int) : spec_l9At l k_ =
 bif decide (k_ < (l.1.2.length : Int)) then
 bif decide (0 ≤ k_) then
 bif decide (k_ < (l.1.2.length : Int)) then
 some (l.1.2.getD (Int.toNat k_) 0)
else none
else none
else 
 bif ((l.2.2.length : Int) == 0) then
 none
else 
 bif decide (0 ≤ (Int.tmod (IntKind.i64.wrap (k_ - (l.1.2.length : Int))) (l.2.2.length : Int))) then
 bif decide ((Int.tmod (IntKind.i64.wrap (k_ - (l.1.2.length : Int))) (l.2.2.length : Int)) < (l.2.2.length : Int)) then
 some (l.2.2.getD (Int.toNat (Int.tmod (IntKind.i64.wrap (k_ - (l.1.2.length : Int))) (l.2.2.length : Int))) 0)
else none
else none := Eq.trans (inf_call_eq (H := H) 145 (l, k_)) (by kernel_rfl)
theorem spec_l10From_L0_eq (f : Bool × List DSaid) (from_ : Int) (many : Int) : spec_l10From_L0 f from_ many =
 bif decide (many > 0) then
(spec_l10From f (IntKind.i64.wrap (from_ - 1))).bind fun r =>
(spec_l10From_L0 f r (IntKind.i64.wrap (many - 1))).bind fun r => some r
else 
 some from_ := Eq.trans (inf_loop_eq (H := H) 211 0 (loopCode Tryz.f211 0) (f, (from_, many)) key_spec_l10From) (by kernel_rfl)
theorem spec_l10From_eq (f : Bool × List DSaid) (k_ : Int) : spec_l10From f k_ =
 bif decide (0 ≤ k_) then
 bif decide (k_ < (f.2.length : Int)) then
(spec_l10Need ((f.2.getD (Int.toNat k_) (0, 0)).1)).bind fun r =>
(spec_l10From_L0 f k_ r).bind fun r1 =>
 some r1
else none
else none := Eq.trans (inf_call_eq (H := H) 211 (f, k_)) (by kernel_rfl)
theorem spec_l10Cell_eq (f : Bool × List DSaid) (parts_ : Bool × List (Bool × List Bool)) (i : Int) (letter : Int) (k_ : Int) (next : Int) (later : Bool) : spec_l10Cell f parts_ i letter k_ next later =
 bif decide (0 ≤ i) then
 bif decide (i < (f.2.length : Int)) then
 bif (((f.2.getD (Int.toNat i) (0, 0)).1) == 1) then
 bif decide ((IntKind.u64.wrap ((f.2.getD (Int.toNat i) (0, 0)).2)) < 0) then
 none
else 
 some ((bAnd .i64 (bShr .i64 letter (IntKind.u64.wrap ((f.2.getD (Int.toNat i) (0, 0)).2))) 1) == 1)
else 
 bif (((f.2.getD (Int.toNat i) (0, 0)).1) == 2) then
 some (((f.2.getD (Int.toNat i) (0, 0)).2) == 1)
else 
 bif (((f.2.getD (Int.toNat i) (0, 0)).1) == 3) then
 bif decide (0 ≤ (IntKind.i64.wrap (i - 1))) then
 bif decide ((IntKind.i64.wrap (i - 1)) < (parts_.2.length : Int)) then
 bif decide (0 ≤ k_) then
 bif decide (k_ < (((parts_.2.getD (Int.toNat (IntKind.i64.wrap (i - 1))) (true, [])).2).length : Int)) then
 some (!(((parts_.2.getD (Int.toNat (IntKind.i64.wrap (i - 1))) (true, [])).2).getD (Int.toNat k_) false))
else none
else none
else none
else none
else 
 bif (((f.2.getD (Int.toNat i) (0, 0)).1) == 4) then
 bif decide (0 ≤ (IntKind.i64.wrap (i - 1))) then
 bif decide ((IntKind.i64.wrap (i - 1)) < (parts_.2.length : Int)) then
 bif decide (0 ≤ next) then
 bif decide (next < (((parts_.2.getD (Int.toNat (IntKind.i64.wrap (i - 1))) (true, [])).2).length : Int)) then
 some (((parts_.2.getD (Int.toNat (IntKind.i64.wrap (i - 1))) (true, [])).2).getD (Int.toNat next) false)
else none
else none
else none
else none
else 
(spec_l10From f (IntKind.i64.wrap (i - 1))).bind fun r =>
 bif decide (0 ≤ (IntKind.i64.wrap (r - 1))) then
 bif decide ((IntKind.i64.wrap (r - 1)) < (parts_.2.length : Int)) then
 bif decide (0 ≤ k_) then
 bif decide (k_ < (((parts_.2.getD (Int.toNat (IntKind.i64.wrap (r - 1))) (true, [])).2).length : Int)) then
 bif decide (0 ≤ (IntKind.i64.wrap (i - 1))) then
 bif decide ((IntKind.i64.wrap (i - 1)) < (parts_.2.length : Int)) then
 bif decide (0 ≤ k_) then
 bif decide (k_ < (((parts_.2.getD (Int.toNat (IntKind.i64.wrap (i - 1))) (true, [])).2).length : Int)) then
 bif (((f.2.getD (Int.toNat i) (0, 0)).1) == 5) then
 bif (((parts_.2.getD (Int.toNat (IntKind.i64.wrap (r - 1))) (true, [])).2).getD (Int.toNat k_) false) then
 some (((parts_.2.getD (Int.toNat (IntKind.i64.wrap (i - 1))) (true, [])).2).getD (Int.toNat k_) false)
else 
 some false
else 
 bif (((f.2.getD (Int.toNat i) (0, 0)).1) == 6) then
 bif (((parts_.2.getD (Int.toNat (IntKind.i64.wrap (r - 1))) (true, [])).2).getD (Int.toNat k_) false) then
 some true
else 
 some (((parts_.2.getD (Int.toNat (IntKind.i64.wrap (i - 1))) (true, [])).2).getD (Int.toNat k_) false)
else 
 bif (((f.2.getD (Int.toNat i) (0, 0)).1) == 7) then
 bif (((parts_.2.getD (Int.toNat (IntKind.i64.wrap (i - 1))) (true, [])).2).getD (Int.toNat k_) false) then
 some true
else 
 bif (((parts_.2.getD (Int.toNat (IntKind.i64.wrap (r - 1))) (true, [])).2).getD (Int.toNat k_) false) then
 some later
else 
 some false
else 
 bif (((parts_.2.getD (Int.toNat (IntKind.i64.wrap (i - 1))) (true, [])).2).getD (Int.toNat k_) false) then
 bif (((parts_.2.getD (Int.toNat (IntKind.i64.wrap (r - 1))) (true, [])).2).getD (Int.toNat k_) false) then
 some true
else 
 some later
else 
 some false
else none
else none
else none
else none
else none
else none
else none
else none
else none
else none := Eq.trans (inf_call_eq (H := H) 144 (f, (parts_, (i, (letter, (k_, (next, later))))))) (by kernel_rfl)
theorem spec_l10Table_L0_eq (f : Bool × List DSaid) (l : DLasso) (n : Int) (out : Bool × List (Bool × List Bool)) (t21 : Bool × List DSaid) (t22 : Int) (t23 : Int) : spec_l10Table_L0 f l n out t21 t22 t23 =
 bif decide (t23 < t22) then
 bif decide (0 ≤ t23) then
 bif decide (t23 < (t21.2.length : Int)) then
 bif decide (0 ≤ n) then
 bif decide (n ≤ lim) then
 bif decide (n ≤ n) then
 bif decide (n ≤ lim) then
(spec_l10Table_L2 f l n (out.1, out.2) t23 (t21.2.getD (Int.toNat t23) (0, 0)) (false, (List.replicate (Int.toNat n) (false : Bool))) t21 t22 t23 ((List.replicate (Int.toNat n) (false : Bool)).length : Int) 0).bind fun r =>
(spec_l10Table_L4 f l n (out.1, out.2) t23 (r.1, r.2) 0 t21 t22 t23).bind fun r1 =>
 bif decide (out.2.length + [(r1.1, r1.2)].length ≤ lim) then
(spec_l10Table_L0 f l n ((out.1 && false), (out.2 ++ [(r1.1, r1.2)])) t21 t22 (IntKind.i64.wrap (t23 + 1))).bind fun r => some r
else none
else none
else none
else none
else none
else none
else none
else 
 some (out.1, out.2) := Eq.trans (inf_loop_eq (H := H) 84 0 (loopCode Tryz.f84 0) (f, (l, (n, (out, (t21, (t22, t23)))))) key_spec_l10Table) (by kernel_rfl)
theorem spec_l10Table_L2_eq (f : Bool × List DSaid) (l : DLasso) (n : Int) (out : Bool × List (Bool × List Bool)) (i : Int) (x : DSaid) (row_ : Bool × List Bool) (t21 : Bool × List DSaid) (t22 : Int) (t23 : Int) (t31 : Int) (t32 : Int) : spec_l10Table_L2 f l n out i x row_ t21 t22 t23 t31 t32 =
 bif decide (t32 < t31) then
 bif decide (0 ≤ t32) then
 bif decide (t32 < (row_.2.length : Int)) then
(spec_l10Table_L2 f l n out i x (row_.1, (row_.2.set (Int.toNat t32) (x.1 == 8))) t21 t22 t23 t31 (IntKind.i64.wrap (t32 + 1))).bind fun r => some r
else none
else none
else 
 some (row_.1, row_.2) := Eq.trans (inf_loop_eq (H := H) 84 2 (loopCode Tryz.f84 2) (f, (l, (n, (out, (i, (x, (row_, (t21, (t22, (t23, (t31, t32))))))))))) key_spec_l10Table) (by kernel_rfl)
theorem spec_l10Table_L4_eq (f : Bool × List DSaid) (l : DLasso) (n : Int) (out : Bool × List (Bool × List Bool)) (i : Int) (row_ : Bool × List Bool) (turn : Int) (t21 : Bool × List DSaid) (t22 : Int) (t23 : Int) : spec_l10Table_L4 f l n out i row_ turn t21 t22 t23 =
 bif decide (turn < 2) then
(spec_l10Table_L6 f l n out i (row_.1, row_.2) turn (IntKind.i64.wrap (n - 1)) t21 t22 t23).bind fun r =>
(spec_l10Table_L4 f l n out i (r.1, r.2) (IntKind.i64.wrap (turn + 1)) t21 t22 t23).bind fun r => some r
else 
 some (row_.1, row_.2) := Eq.trans (inf_loop_eq (H := H) 84 4 (loopCode Tryz.f84 4) (f, (l, (n, (out, (i, (row_, (turn, (t21, (t22, t23))))))))) key_spec_l10Table) (by kernel_rfl)
theorem spec_l10Table_L6_eq (f : Bool × List DSaid) (l : DLasso) (n : Int) (out : Bool × List (Bool × List Bool)) (i : Int) (row_ : Bool × List Bool) (turn : Int) (k_ : Int) (t21 : Bool × List DSaid) (t22 : Int) (t23 : Int) : spec_l10Table_L6 f l n out i row_ turn k_ t21 t22 t23 =
 bif decide (k_ ≥ 0) then
 bif ((IntKind.i64.wrap (k_ + 1)) == n) then
(spec_l9At l k_).bind fun r =>
 bif decide (0 ≤ (l.1.2.length : Int)) then
 bif decide ((l.1.2.length : Int) < (row_.2.length : Int)) then
(spec_l10Cell f out i r k_ (l.1.2.length : Int) (row_.2.getD (Int.toNat (l.1.2.length : Int)) false)).bind fun r1 =>
 bif decide (0 ≤ k_) then
 bif decide (k_ < (row_.2.length : Int)) then
(spec_l10Table_L6 f l n out i (row_.1, (row_.2.set (Int.toNat k_) r1)) turn (IntKind.i64.wrap (k_ - 1)) t21 t22 t23).bind fun r => some r
else none
else none
else none
else none
else 
(spec_l9At l k_).bind fun r2 =>
 bif decide (0 ≤ (IntKind.i64.wrap (k_ + 1))) then
 bif decide ((IntKind.i64.wrap (k_ + 1)) < (row_.2.length : Int)) then
(spec_l10Cell f out i r2 k_ (IntKind.i64.wrap (k_ + 1)) (row_.2.getD (Int.toNat (IntKind.i64.wrap (k_ + 1))) false)).bind fun r3 =>
 bif decide (0 ≤ k_) then
 bif decide (k_ < (row_.2.length : Int)) then
(spec_l10Table_L6 f l n out i (row_.1, (row_.2.set (Int.toNat k_) r3)) turn (IntKind.i64.wrap (k_ - 1)) t21 t22 t23).bind fun r => some r
else none
else none
else none
else none
else 
 some (row_.1, row_.2) := Eq.trans (inf_loop_eq (H := H) 84 6 (loopCode Tryz.f84 6) (f, (l, (n, (out, (i, (row_, (turn, (k_, (t21, (t22, t23)))))))))) key_spec_l10Table) (by kernel_rfl)
theorem spec_l10Table_eq (f : Bool × List DSaid) (l : DLasso) : spec_l10Table f l =
(spec_l10Table_L0 f l (IntKind.i64.wrap ((l.1.2.length : Int) + (l.2.2.length : Int))) (true, []) f (f.2.length : Int) 0).bind fun r =>
 some (r.1, r.2) := Eq.trans (inf_call_eq (H := H) 84 (f, l)) (by kernel_rfl)
theorem spec_l10Fold_eq (l : DLasso) (k_ : Int) : spec_l10Fold l k_ =
 bif decide (k_ < (l.1.2.length : Int)) then
 some k_
else 
 bif ((l.2.2.length : Int) == 0) then
 none
else 
 some (IntKind.i64.wrap ((l.1.2.length : Int) + (Int.tmod (IntKind.i64.wrap (k_ - (l.1.2.length : Int))) (l.2.2.length : Int)))) := Eq.trans (inf_call_eq (H := H) 85 (l, k_)) (by kernel_rfl)
theorem spec_l10At_eq (f : Bool × List DSaid) (l : DLasso) (k_ : Int) : spec_l10At f l k_ =
(spec_l10Table f l).bind fun r =>
 bif decide (0 ≤ (IntKind.i64.wrap ((f.2.length : Int) - 1))) then
 bif decide ((IntKind.i64.wrap ((f.2.length : Int) - 1)) < (r.2.length : Int)) then
(spec_l10Fold l k_).bind fun r1 =>
 bif decide (0 ≤ r1) then
 bif decide (r1 < (((r.2.getD (Int.toNat (IntKind.i64.wrap ((f.2.length : Int) - 1))) (true, [])).2).length : Int)) then
 some (((r.2.getD (Int.toNat (IntKind.i64.wrap ((f.2.length : Int) - 1))) (true, [])).2).getD (Int.toNat r1) false)
else none
else none
else none
else none := Eq.trans (inf_call_eq (H := H) 37 (f, (l, k_))) (by kernel_rfl)
theorem spec_CheckRun_eq (q : DQuestion) (stem : Bool × List Int) (loop : Bool × List Int) : spec_CheckRun q stem loop =
(spec_l14Told q stem loop).bind fun r =>
 bif !r then
 some (0, false)
else 
 bif decide (0 < (loop.2.length : Int)) then
 bif decide ((stem.2.length : Int) > 0) then
 bif decide (0 < (stem.2.length : Int)) then
(spec_l8Those q.1 q.1.2.2.1).bind fun r1 =>
(spec_l1Has (r1.1, r1.2) (stem.2.getD 0 0)).bind fun r2 =>
 bif !r2 then
 some (1, true)
else 
(spec_l14IsRun q stem loop).bind fun r3 =>
 bif !r3 then
 some (2, true)
else 
(spec_l14Word q stem loop).bind fun r4 =>
(spec_l10At q.2.2 ((r4.1.1, r4.1.2), (r4.2.1, r4.2.2)) 0).bind fun r5 =>
 bif r5 then
 some (3, true)
else 
 some (0, true)
else none
else 
(spec_l8Those q.1 q.1.2.2.1).bind fun r6 =>
(spec_l1Has (r6.1, r6.2) (loop.2.getD 0 0)).bind fun r7 =>
 bif !r7 then
 some (1, true)
else 
(spec_l14IsRun q stem loop).bind fun r8 =>
 bif !r8 then
 some (2, true)
else 
(spec_l14Word q stem loop).bind fun r9 =>
(spec_l10At q.2.2 ((r9.1.1, r9.1.2), (r9.2.1, r9.2.2)) 0).bind fun r10 =>
 bif r10 then
 some (3, true)
else 
 some (0, true)
else none := Eq.trans (inf_call_eq (H := H) 7 (q, (stem, loop))) (by kernel_rfl)
theorem impl_isWide_eq (n : Int) : impl_isWide n =
 bif decide (n ≥ 1) then
 some (decide (n ≤ 64))
else 
 some false := Eq.trans (inf_call_eq (H := H) 249 n) (by kernel_rfl)
theorem impl_isVars_eq (n : Int) : impl_isVars n =
 bif decide (n ≥ 1) then
 some (decide (n ≤ 4))
else 
 some false := Eq.trans (inf_call_eq (H := H) 250 n) (by kernel_rfl)
theorem impl_operandsOf_eq (op : Int) : impl_operandsOf op =
 bif (op == 1) then
 some (0, (0, 1))
else 
 bif (op == 2) then
 some (0, (0, 1))
else 
 bif (op == 20) then
 some (0, (0, 2))
else 
 bif (op == 13) then
 some (1, (1, 1))
else 
 bif (op == 19) then
 some (1, (2, 2))
else 
 bif decide (op ≥ 3) then
 bif decide (op ≤ 12) then
 some (2, (1, 1))
else 
 bif decide (op ≥ 14) then
 bif decide (op ≤ 16) then
 some (2, (1, 2))
else 
 bif (op == 17) then
 some (2, (2, 2))
else 
 bif (op == 18) then
 some (2, (2, 2))
else 
 some (0, (0, 0))
else 
 bif (op == 17) then
 some (2, (2, 2))
else 
 bif (op == 18) then
 some (2, (2, 2))
else 
 some (0, (0, 0))
else 
 bif decide (op ≥ 14) then
 bif decide (op ≤ 16) then
 some (2, (1, 2))
else 
 bif (op == 17) then
 some (2, (2, 2))
else 
 bif (op == 18) then
 some (2, (2, 2))
else 
 some (0, (0, 0))
else 
 bif (op == 17) then
 some (2, (2, 2))
else 
 bif (op == 18) then
 some (2, (2, 2))
else 
 some (0, (0, 0)) := Eq.trans (inf_call_eq (H := H) 282 op) (by kernel_rfl)
theorem impl_mask_eq (wide : Int) : impl_mask wide =
 bif decide ((IntKind.i64.wrap (64 - wide)) < 0) then
 none
else 
 some (bShr .u64 18446744073709551615 (IntKind.i64.wrap (64 - wide))) := Eq.trans (inf_call_eq (H := H) 94 wide) (by kernel_rfl)
theorem impl_GoodWord_eq (wide : Int) (a : Int) : impl_GoodWord wide a =
(impl_isWide wide).bind fun r =>
 bif r then
(impl_mask wide).bind fun r1 =>
 some (decide (a ≤ r1))
else 
 some false := Eq.trans (inf_call_eq (H := H) 290 (wide, a)) (by kernel_rfl)
theorem impl_isLeafRight_eq (wide : Int) (vars : Int) (x : DNode) : impl_isLeafRight wide vars x =
 bif (x.1 == 1) then
(impl_GoodWord wide x.2).bind fun r =>
 some r
else 
 bif (x.1 == 2) then
 some (decide (x.2 < (IntKind.u64.wrap vars)))
else 
 bif (x.1 == 20) then
 some (decide (x.2 ≤ 1))
else 
 some (x.2 == 0) := Eq.trans (inf_call_eq (H := H) 283 (wide, (vars, x))) (by kernel_rfl)
theorem impl_GoodTerm_1_eq (own : Int) (a1 : Int) : impl_GoodTerm_1 own a1 =
 some (own != a1) := Eq.trans (inf_call_eq (H := H) 284 (own, a1)) (by kernel_rfl)
theorem slices_IndexFunc_int_by_GoodTerm_1_L0_eq (s : Bool × List Int) (f : Int × Unit) (t7 : Int) (t8 : Int) : slices_IndexFunc_int_by_GoodTerm_1_L0 s f t7 t8 =
 bif decide (t8 < t7) then
 bif decide (0 ≤ t8) then
 bif decide (t8 < (s.2.length : Int)) then
(impl_GoodTerm_1 (s.2.getD (Int.toNat t8) 0) f.1).bind fun r =>
 bif r then
 some (.inl t8)
else 
(slices_IndexFunc_int_by_GoodTerm_1_L0 s f t7 (IntKind.i64.wrap (t8 + 1))).bind fun r => some r
else none
else none
else 
 some (.inr ()) := Eq.trans (inf_loop_eq (H := H) 147 0 (loopCode Tryz.f147 0) (s, (f, (t7, t8))) key_slices_IndexFunc_int_by_GoodTerm_1) (by kernel_rfl)
theorem slices_IndexFunc_int_by_GoodTerm_1_eq (s : Bool × List Int) (f : Int × Unit) : slices_IndexFunc_int_by_GoodTerm_1 s f =
(slices_IndexFunc_int_by_GoodTerm_1_L0 s f (s.2.length : Int) 0).bind fun r =>
 match r with
| .inl y =>
 some y
| .inr z =>
 some (-1) := Eq.trans (inf_call_eq (H := H) 147 (s, f)) (by kernel_rfl)
theorem slices_ContainsFunc_int_by_GoodTerm_1_eq (s : Bool × List Int) (f : Int × Unit) : slices_ContainsFunc_int_by_GoodTerm_1 s f =
(slices_IndexFunc_int_by_GoodTerm_1 s f).bind fun r =>
 some (decide (r ≥ 0)) := Eq.trans (inf_call_eq (H := H) 90 (s, f)) (by kernel_rfl)
theorem impl_GoodTerm_L0_eq (wide : Int) (vars : Int) (stack : Bool × List Int) (t33 : Bool × List DNode) (t34 : Int) (t35 : Int) : impl_GoodTerm_L0 wide vars stack t33 t34 t35 =
 bif decide (t35 < t34) then
 bif decide (0 ≤ t35) then
 bif decide (t35 < (t33.2.length : Int)) then
(impl_operandsOf ((t33.2.getD (Int.toNat t35) (0, 0)).1)).bind fun r =>
 bif (r.2.2 == 0) then
 some (.inl false)
else 
(impl_isLeafRight wide vars (t33.2.getD (Int.toNat t35) (0, 0))).bind fun r1 =>
 bif !r1 then
 some (.inl false)
else 
 bif decide ((IntKind.i64.wrap ((stack.2.length : Int) - r.1)) < 0) then
 some (.inl false)
else 
 bif decide (0 ≤ (IntKind.i64.wrap ((stack.2.length : Int) - r.1))) then
 bif decide ((IntKind.i64.wrap ((stack.2.length : Int) - r.1)) ≤ (stack.2.length : Int)) then
(slices_ContainsFunc_int_by_GoodTerm_1 (stack.1, ((stack.2.take stack.2.length).drop (Int.toNat (IntKind.i64.wrap ((stack.2.length : Int) - r.1))))) (r.2.1, ())).bind fun r2 =>
 bif r2 then
 some (.inl false)
else 
 bif decide (0 ≤ (IntKind.i64.wrap ((stack.2.length : Int) - r.1))) then
 bif decide ((IntKind.i64.wrap ((stack.2.length : Int) - r.1)) ≤ (stack.2.length : Int)) then
 bif decide (((stack.2.take (Int.toNat (IntKind.i64.wrap ((stack.2.length : Int) - r.1)))).drop 0).length + [r.2.2].length ≤ lim) then
(impl_GoodTerm_L0 wide vars ((stack.1 && false), (((stack.2.take (Int.toNat (IntKind.i64.wrap ((stack.2.length : Int) - r.1)))).drop 0) ++ [r.2.2])) t33 t34 (IntKind.i64.wrap (t35 + 1))).bind fun r => some r
else none
else none
else none
else none
else none
else none
else none
else 
 some (.inr (stack.1, stack.2)) := Eq.trans (inf_loop_eq (H := H) 255 0 (loopCode Tryz.f255 0) (wide, (vars, (stack, (t33, (t34, t35))))) key_impl_GoodTerm) (by kernel_rfl)
theorem impl_GoodTerm_eq (wide : Int) (vars : Int) (t : Bool × List DNode) : impl_GoodTerm wide vars t =
(impl_isWide wide).bind fun r =>
 bif !r then
 some false
else 
(impl_isVars vars).bind fun r1 =>
 bif !r1 then
 some false
else 
 bif decide ((t.2.length : Int) < 1) then
 some false
else 
 bif decide ((t.2.length : Int) > 48) then
 some false
else 
(impl_GoodTerm_L0 wide vars (false, []) t (t.2.length : Int) 0).bind fun r2 =>
 match r2 with
| .inl y =>
 some y
| .inr z =>
 some ((z.2.length : Int) == 1) := Eq.trans (inf_call_eq (H := H) 255 (wide, (vars, t))) (by kernel_rfl)
theorem impl_kindOf_eq (t : Bool × List DNode) : impl_kindOf t =
 bif decide (0 ≤ (IntKind.i64.wrap ((t.2.length : Int) - 1))) then
 bif decide ((IntKind.i64.wrap ((t.2.length : Int) - 1)) < (t.2.length : Int)) then
(impl_operandsOf ((t.2.getD (Int.toNat (IntKind.i64.wrap ((t.2.length : Int) - 1))) (0, 0)).1)).bind fun r =>
 some r.2.2
else none
else none := Eq.trans (inf_call_eq (H := H) 256 t) (by kernel_rfl)
theorem impl_isTermOf_eq (wide : Int) (vars : Int) (t : Bool × List DNode) (kind : Int) : impl_isTermOf wide vars t kind =
(impl_GoodTerm wide vars t).bind fun r =>
 bif r then
(impl_kindOf t).bind fun r1 =>
 some (r1 == kind)
else 
 some false := Eq.trans (inf_call_eq (H := H) 199 (wide, (vars, (t, kind)))) (by kernel_rfl)
theorem impl_Program_isCondition_eq (p : DProgram) (t : Bool × List DNode) : impl_Program_isCondition p t =
(impl_isTermOf p.1 p.2.1 t 2).bind fun r =>
 some r := Eq.trans (inf_call_eq (H := H) 130 (p, t)) (by kernel_rfl)
theorem impl_Program_isCommand_L0_eq (p : DProgram) (c : DCommand) (t13 : Bool × List DChange) (t14 : Int) (t15 : Int) : impl_Program_isCommand_L0 p c t13 t14 t15 =
 bif decide (t15 < t14) then
 bif decide (0 ≤ t15) then
 bif decide (t15 < (t13.2.length : Int)) then
 bif decide (((t13.2.getD (Int.toNat t15) (0, (true, []))).1) < 0) then
 some (.inl false)
else 
 bif decide (((t13.2.getD (Int.toNat t15) (0, (true, []))).1) ≥ p.2.1) then
 some (.inl false)
else 
 bif decide (t15 > 0) then
 bif decide (0 ≤ (IntKind.i64.wrap (t15 - 1))) then
 bif decide ((IntKind.i64.wrap (t15 - 1)) < (c.2.2.length : Int)) then
 bif decide (((c.2.2.getD (Int.toNat (IntKind.i64.wrap (t15 - 1))) (0, (true, []))).1) ≥ ((t13.2.getD (Int.toNat t15) (0, (true, []))).1)) then
 some (.inl false)
else 
(impl_isTermOf p.1 p.2.1 ((t13.2.getD (Int.toNat t15) (0, (true, []))).2) 1).bind fun r =>
 bif !r then
 some (.inl false)
else 
(impl_Program_isCommand_L0 p c t13 t14 (IntKind.i64.wrap (t15 + 1))).bind fun r => some r
else none
else none
else 
(impl_isTermOf p.1 p.2.1 ((t13.2.getD (Int.toNat t15) (0, (true, []))).2) 1).bind fun r1 =>
 bif !r1 then
 some (.inl false)
else 
(impl_Program_isCommand_L0 p c t13 t14 (IntKind.i64.wrap (t15 + 1))).bind fun r => some r
else none
else none
else 
 some (.inr ()) := Eq.trans (inf_loop_eq (H := H) 253 0 (loopCode Tryz.f253 0) (p, (c, (t13, (t14, t15)))) key_impl_Program_isCommand) (by kernel_rfl)
theorem impl_Program_isCommand_eq (p : DProgram) (c : DCommand) : impl_Program_isCommand p c =
(impl_Program_isCondition p c.1).bind fun r =>
 bif !r then
 some false
else 
(impl_Program_isCommand_L0 p c c.2 (c.2.2.length : Int) 0).bind fun r1 =>
 match r1 with
| .inl y =>
 some y
| .inr z =>
 some true := Eq.trans (inf_call_eq (H := H) 253 (p, c)) (by kernel_rfl)
theorem impl_GoodProgram_1_eq (c : DCommand) (a1 : DProgram) : impl_GoodProgram_1 c a1 =
(impl_Program_isCommand a1 c).bind fun r =>
 some (!r) := Eq.trans (inf_call_eq (H := H) 252 (c, a1)) (by kernel_rfl)
theorem slices_IndexFunc_Command_by_GoodProgram_1_L0_eq (s : Bool × List DCommand) (f : DProgram × Unit) (t7 : Int) (t8 : Int) : slices_IndexFunc_Command_by_GoodProgram_1_L0 s f t7 t8 =
 bif decide (t8 < t7) then
 bif decide (0 ≤ t8) then
 bif decide (t8 < (s.2.length : Int)) then
(impl_GoodProgram_1 (s.2.getD (Int.toNat t8) ((true, []), (true, []))) f.1).bind fun r =>
 bif r then
 some (.inl t8)
else 
(slices_IndexFunc_Command_by_GoodProgram_1_L0 s f t7 (IntKind.i64.wrap (t8 + 1))).bind fun r => some r
else none
else none
else 
 some (.inr ()) := Eq.trans (inf_loop_eq (H := H) 281 0 (loopCode Tryz.f281 0) (s, (f, (t7, t8))) key_slices_IndexFunc_Command_by_GoodProgram_1) (by kernel_rfl)
theorem slices_IndexFunc_Command_by_GoodProgram_1_eq (s : Bool × List DCommand) (f : DProgram × Unit) : slices_IndexFunc_Command_by_GoodProgram_1 s f =
(slices_IndexFunc_Command_by_GoodProgram_1_L0 s f (s.2.length : Int) 0).bind fun r =>
 match r with
| .inl y =>
 some y
| .inr z =>
 some (-1) := Eq.trans (inf_call_eq (H := H) 281 (s, f)) (by kernel_rfl)
theorem slices_ContainsFunc_Command_by_GoodProgram_1_eq (s : Bool × List DCommand) (f : DProgram × Unit) : slices_ContainsFunc_Command_by_GoodProgram_1 s f =
(slices_IndexFunc_Command_by_GoodProgram_1 s f).bind fun r =>
 some (decide (r ≥ 0)) := Eq.trans (inf_call_eq (H := H) 251 (s, f)) (by kernel_rfl)
theorem impl_GoodProgram_eq (p : DProgram) : impl_GoodProgram p =
(impl_isWide p.1).bind fun r =>
 bif !r then
 some false
else 
(impl_isVars p.2.1).bind fun r1 =>
 bif !r1 then
 some false
else 
(impl_Program_isCondition p p.2.2.1).bind fun r2 =>
 bif !r2 then
 some false
else 
 bif decide ((p.2.2.2.2.length : Int) < 1) then
 some false
else 
 bif decide ((p.2.2.2.2.length : Int) > 6) then
 some false
else 
(slices_ContainsFunc_Command_by_GoodProgram_1 p.2.2.2 (p, ())).bind fun r3 =>
 some (!r3) := Eq.trans (inf_call_eq (H := H) 196 p) (by kernel_rfl)
theorem impl_isSmall_eq (p : DProgram) : impl_isSmall p =
(impl_GoodProgram p).bind fun r =>
 bif r then
 some (decide ((IntKind.i64.wrap (p.1 * p.2.1)) ≤ 5))
else 
 some false := Eq.trans (inf_call_eq (H := H) 126 p) (by kernel_rfl)
theorem impl_operandsOfSaid_eq (op : Int) : impl_operandsOfSaid op =
 bif (op == 1) then
 bif (op == 1) then
 some 0
else 
 bif (op == 3) then
 bif (op == 3) then
 some 1
else 
 bif (op == 5) then
 bif (op == 5) then
 some 2
else 
 some (-1)
else 
 bif (op == 6) then
 bif (op == 6) then
 some 2
else 
 some (-1)
else 
 bif (op == 7) then
 bif (op == 7) then
 some 2
else 
 some (-1)
else 
 bif (op == 8) then
 some 2
else 
 some (-1)
else 
 bif (op == 4) then
 some 1
else 
 bif (op == 5) then
 bif (op == 5) then
 some 2
else 
 some (-1)
else 
 bif (op == 6) then
 bif (op == 6) then
 some 2
else 
 some (-1)
else 
 bif (op == 7) then
 bif (op == 7) then
 some 2
else 
 some (-1)
else 
 bif (op == 8) then
 some 2
else 
 some (-1)
else 
 bif (op == 2) then
 some 0
else 
 bif (op == 3) then
 bif (op == 3) then
 some 1
else 
 bif (op == 5) then
 bif (op == 5) then
 some 2
else 
 some (-1)
else 
 bif (op == 6) then
 bif (op == 6) then
 some 2
else 
 some (-1)
else 
 bif (op == 7) then
 bif (op == 7) then
 some 2
else 
 some (-1)
else 
 bif (op == 8) then
 some 2
else 
 some (-1)
else 
 bif (op == 4) then
 some 1
else 
 bif (op == 5) then
 bif (op == 5) then
 some 2
else 
 some (-1)
else 
 bif (op == 6) then
 bif (op == 6) then
 some 2
else 
 some (-1)
else 
 bif (op == 7) then
 bif (op == 7) then
 some 2
else 
 some (-1)
else 
 bif (op == 8) then
 some 2
else 
 some (-1) := Eq.trans (inf_call_eq (H := H) 98 op) (by kernel_rfl)
theorem impl_isSaid_eq (x : DSaid) : impl_isSaid x =
 bif (x.1 == 1) then
 bif decide (x.2 ≥ 0) then
 some (decide (x.2 < 3))
else 
 some false
else 
 bif (x.1 == 2) then
 bif (x.2 == 0) then
 some true
else 
 some (x.2 == 1)
else 
(impl_operandsOfSaid x.1).bind fun r =>
 bif decide (r > 0) then
 some (x.2 == 0)
else 
 some false := Eq.trans (inf_call_eq (H := H) 254 x) (by kernel_rfl)
theorem impl_GoodSaid_L0_eq (values : Int) (t15 : Bool × List DSaid) (t16 : Int) (t17 : Int) : impl_GoodSaid_L0 values t15 t16 t17 =
 bif decide (t17 < t16) then
 bif decide (0 ≤ t17) then
 bif decide (t17 < (t15.2.length : Int)) then
(impl_operandsOfSaid ((t15.2.getD (Int.toNat t17) (0, 0)).1)).bind fun r =>
(impl_isSaid (t15.2.getD (Int.toNat t17) (0, 0))).bind fun r1 =>
 bif !r1 then
 some (.inl false)
else 
 bif decide (values < r) then
 some (.inl false)
else 
(impl_GoodSaid_L0 (IntKind.i64.wrap (values + (IntKind.i64.wrap (1 - r)))) t15 t16 (IntKind.i64.wrap (t17 + 1))).bind fun r => some r
else none
else none
else 
 some (.inr values) := Eq.trans (inf_loop_eq (H := H) 197 0 (loopCode Tryz.f197 0) (values, (t15, (t16, t17))) key_impl_GoodSaid) (by kernel_rfl)
theorem impl_GoodSaid_eq (f : Bool × List DSaid) : impl_GoodSaid f =
 bif decide ((f.2.length : Int) < 1) then
 some false
else 
 bif decide ((f.2.length : Int) > 16) then
 some false
else 
(impl_GoodSaid_L0 0 f (f.2.length : Int) 0).bind fun r =>
 match r with
| .inl y =>
 some y
| .inr z =>
 some (z == 1) := Eq.trans (inf_call_eq (H := H) 197 f) (by kernel_rfl)
theorem slices_Clone_int_eq (s : Bool × List Int) : slices_Clone_int s =
 bif s.1 then
 some (true, [])
else 
 bif decide (([] : List Int).length + s.2.length ≤ lim) then
 some (false, ([] ++ s.2))
else none := Eq.trans (inf_call_eq (H := H) 187 s) (by kernel_rfl)
theorem impl_operandIndexes_L0_eq (out : Bool × List (Bool × List Int)) (stack : Bool × List Int) (t10 : Bool × List DSaid) (t11 : Int) (t12 : Int) : impl_operandIndexes_L0 out stack t10 t11 t12 =
 bif decide (t12 < t11) then
 bif decide (0 ≤ t12) then
 bif decide (t12 < (t10.2.length : Int)) then
(impl_operandsOfSaid ((t10.2.getD (Int.toNat t12) (0, 0)).1)).bind fun r =>
 bif decide (0 ≤ (IntKind.i64.wrap ((stack.2.length : Int) - r))) then
 bif decide ((IntKind.i64.wrap ((stack.2.length : Int) - r)) ≤ (stack.2.length : Int)) then
(slices_Clone_int (stack.1, ((stack.2.take stack.2.length).drop (Int.toNat (IntKind.i64.wrap ((stack.2.length : Int) - r)))))).bind fun r1 =>
 bif decide (out.2.length + [(r1.1, r1.2)].length ≤ lim) then
 bif decide (0 ≤ (IntKind.i64.wrap ((stack.2.length : Int) - r))) then
 bif decide ((IntKind.i64.wrap ((stack.2.length : Int) - r)) ≤ (stack.2.length : Int)) then
 bif decide (((stack.2.take (Int.toNat (IntKind.i64.wrap ((stack.2.length : Int) - r)))).drop 0).length + [t12].length ≤ lim) then
(impl_operandIndexes_L0 ((out.1 && false), (out.2 ++ [(r1.1, r1.2)])) ((stack.1 && false), (((stack.2.take (Int.toNat (IntKind.i64.wrap ((stack.2.length : Int) - r)))).drop 0) ++ [t12])) t10 t11 (IntKind.i64.wrap (t12 + 1))).bind fun r => some r
else none
else none
else none
else none
else none
else none
else none
else none
else 
 some (out.1, out.2) := Eq.trans (inf_loop_eq (H := H) 233 0 (loopCode Tryz.f233 0) (out, (stack, (t10, (t11, t12)))) key_impl_operandIndexes) (by kernel_rfl)
theorem impl_operandIndexes_eq (f : Bool × List DSaid) : impl_operandIndexes f =
(impl_operandIndexes_L0 (false, []) (false, []) f (f.2.length : Int) 0).bind fun r =>
 some (r.1, r.2) := Eq.trans (inf_call_eq (H := H) 233 f) (by kernel_rfl)
theorem slices_Sort_int_eq (s : Bool × List Int) : slices_Sort_int s =
(sortI s).bind fun r => some r := Eq.trans (inf_call_eq (H := H) 219 s) (by kernel_rfl)
theorem slices_Compact_int_eq (s : Bool × List Int) : slices_Compact_int s =
(compactI s).bind fun r => some r := Eq.trans (inf_call_eq (H := H) 220 s) (by kernel_rfl)
theorem impl_tracked_L0_eq (out : Bool × List Int) (operands : Bool × List (Bool × List Int)) (t13 : Bool × List DSaid) (t14 : Int) (t15 : Int) : impl_tracked_L0 out operands t13 t14 t15 =
 bif decide (t15 < t14) then
 bif decide (0 ≤ t15) then
 bif decide (t15 < (t13.2.length : Int)) then
 bif (((t13.2.getD (Int.toNat t15) (0, 0)).1) == 7) then
 bif (((t13.2.getD (Int.toNat t15) (0, 0)).1) == 7) then
 bif decide (0 ≤ t15) then
 bif decide (t15 < (operands.2.length : Int)) then
 bif decide (1 < (((operands.2.getD (Int.toNat t15) (true, [])).2).length : Int)) then
 bif decide (out.2.length + ([t15, (((operands.2.getD (Int.toNat t15) (true, [])).2).getD 1 0)] : List Int).length ≤ lim) then
(impl_tracked_L0 ((out.1 && false), (out.2 ++ [t15, (((operands.2.getD (Int.toNat t15) (true, [])).2).getD 1 0)])) operands t13 t14 (IntKind.i64.wrap (t15 + 1))).bind fun r => some r
else none
else none
else none
else none
else 
 bif (((t13.2.getD (Int.toNat t15) (0, 0)).1) == 4) then
 bif decide (0 ≤ t15) then
 bif decide (t15 < (operands.2.length : Int)) then
 bif decide (0 < (((operands.2.getD (Int.toNat t15) (true, [])).2).length : Int)) then
 bif decide (out.2.length + ([(((operands.2.getD (Int.toNat t15) (true, [])).2).getD 0 0)] : List Int).length ≤ lim) then
(impl_tracked_L0 ((out.1 && false), (out.2 ++ [(((operands.2.getD (Int.toNat t15) (true, [])).2).getD 0 0)])) operands t13 t14 (IntKind.i64.wrap (t15 + 1))).bind fun r => some r
else none
else none
else none
else none
else 
(impl_tracked_L0 (out.1, out.2) operands t13 t14 (IntKind.i64.wrap (t15 + 1))).bind fun r => some r
else 
 bif (((t13.2.getD (Int.toNat t15) (0, 0)).1) == 8) then
 bif decide (0 ≤ t15) then
 bif decide (t15 < (operands.2.length : Int)) then
 bif decide (1 < (((operands.2.getD (Int.toNat t15) (true, [])).2).length : Int)) then
 bif decide (out.2.length + ([t15, (((operands.2.getD (Int.toNat t15) (true, [])).2).getD 1 0)] : List Int).length ≤ lim) then
(impl_tracked_L0 ((out.1 && false), (out.2 ++ [t15, (((operands.2.getD (Int.toNat t15) (true, [])).2).getD 1 0)])) operands t13 t14 (IntKind.i64.wrap (t15 + 1))).bind fun r => some r
else none
else none
else none
else none
else 
 bif (((t13.2.getD (Int.toNat t15) (0, 0)).1) == 4) then
 bif decide (0 ≤ t15) then
 bif decide (t15 < (operands.2.length : Int)) then
 bif decide (0 < (((operands.2.getD (Int.toNat t15) (true, [])).2).length : Int)) then
 bif decide (out.2.length + ([(((operands.2.getD (Int.toNat t15) (true, [])).2).getD 0 0)] : List Int).length ≤ lim) then
(impl_tracked_L0 ((out.1 && false), (out.2 ++ [(((operands.2.getD (Int.toNat t15) (true, [])).2).getD 0 0)])) operands t13 t14 (IntKind.i64.wrap (t15 + 1))).bind fun r => some r
else none
else none
else none
else none
else 
(impl_tracked_L0 (out.1, out.2) operands t13 t14 (IntKind.i64.wrap (t15 + 1))).bind fun r => some r
else none
else none
else 
 some (out.1, out.2) := Eq.trans (inf_loop_eq (H := H) 189 0 (loopCode Tryz.f189 0) (out, (operands, (t13, (t14, t15)))) key_impl_tracked) (by kernel_rfl)
theorem impl_tracked_eq (f : Bool × List DSaid) : impl_tracked f =
(impl_operandIndexes f).bind fun r =>
(impl_tracked_L0 (false, [IntKind.i64.wrap ((f.2.length : Int) - 1)]) (r.1, r.2) f (f.2.length : Int) 0).bind fun r1 =>
(slices_Sort_int (r1.1, r1.2)).bind fun r2 =>
(slices_Compact_int (r2.1, r2.2)).bind fun r3 =>
 some (r3.1, r3.2) := Eq.trans (inf_call_eq (H := H) 189 f) (by kernel_rfl)
theorem impl_isTracked_eq (f : Bool × List DSaid) : impl_isTracked f =
(impl_GoodSaid f).bind fun r =>
 bif r then
(impl_tracked f).bind fun r1 =>
 some (decide ((r1.2.length : Int) ≤ 5))
else 
 some false := Eq.trans (inf_call_eq (H := H) 127 f) (by kernel_rfl)
theorem impl_GoodQuestion_1_eq (t : Bool × List DNode) (a1 : DQuestion) : impl_GoodQuestion_1 t a1 =
(impl_Program_isCondition a1.1 t).bind fun r =>
 some (!r) := Eq.trans (inf_call_eq (H := H) 129 (t, a1)) (by kernel_rfl)
theorem slices_IndexFunc_Node_by_GoodQuestion_1_L0_eq (s : Bool × List (Bool × List DNode)) (f : DQuestion × Unit) (t7 : Int) (t8 : Int) : slices_IndexFunc_Node_by_GoodQuestion_1_L0 s f t7 t8 =
 bif decide (t8 < t7) then
 bif decide (0 ≤ t8) then
 bif decide (t8 < (s.2.length : Int)) then
(impl_GoodQuestion_1 (s.2.getD (Int.toNat t8) (true, [])) f.1).bind fun r =>
 bif r then
 some (.inl t8)
else 
(slices_IndexFunc_Node_by_GoodQuestion_1_L0 s f t7 (IntKind.i64.wrap (t8 + 1))).bind fun r => some r
else none
else none
else 
 some (.inr ()) := Eq.trans (inf_loop_eq (H := H) 198 0 (loopCode Tryz.f198 0) (s, (f, (t7, t8))) key_slices_IndexFunc_Node_by_GoodQuestion_1) (by kernel_rfl)
theorem slices_IndexFunc_Node_by_GoodQuestion_1_eq (s : Bool × List (Bool × List DNode)) (f : DQuestion × Unit) : slices_IndexFunc_Node_by_GoodQuestion_1 s f =
(slices_IndexFunc_Node_by_GoodQuestion_1_L0 s f (s.2.length : Int) 0).bind fun r =>
 match r with
| .inl y =>
 some y
| .inr z =>
 some (-1) := Eq.trans (inf_call_eq (H := H) 198 (s, f)) (by kernel_rfl)
theorem slices_ContainsFunc_Node_by_GoodQuestion_1_eq (s : Bool × List (Bool × List DNode)) (f : DQuestion × Unit) : slices_ContainsFunc_Node_by_GoodQuestion_1 s f =
(slices_IndexFunc_Node_by_GoodQuestion_1 s f).bind fun r =>
 some (decide (r ≥ 0)) := Eq.trans (inf_call_eq (H := H) 128 (s, f)) (by kernel_rfl)
theorem impl_GoodQuestion_eq (q : DQuestion) : impl_GoodQuestion q =
(impl_isSmall q.1).bind fun r =>
 bif !r then
 some false
else 
 bif ((q.2.1.2.length : Int) != 3) then
 some false
else 
(impl_isTracked q.2.2).bind fun r1 =>
 bif !r1 then
 some false
else 
(slices_ContainsFunc_Node_by_GoodQuestion_1 q.2.1 (q, ())).bind fun r2 =>
 some (!r2) := Eq.trans (inf_call_eq (H := H) 70 q) (by kernel_rfl)
theorem impl_Program_states_eq (p : DProgram) : impl_Program_states p =
 bif decide ((IntKind.i64.wrap (p.1 * p.2.1)) < 0) then
 none
else 
 some (bShl .i64 1 (IntKind.i64.wrap (p.1 * p.2.1))) := Eq.trans (inf_call_eq (H := H) 89 p) (by kernel_rfl)
theorem slices_Grow_int_eq (n : Int) : slices_Grow_int n =
 bif decide (n < 0) then
 none
else 
 bif decide ((IntKind.i64.wrap (n - (IntKind.i64.wrap (0 - 0)))) > 0) then
 bif decide (0 ≤ (IntKind.i64.wrap (n - (IntKind.i64.wrap (0 - 0))))) then
 bif decide ((IntKind.i64.wrap (n - (IntKind.i64.wrap (0 - 0)))) ≤ lim) then
 bif decide (([] : List Int).length + (List.replicate (Int.toNat (IntKind.i64.wrap (n - (IntKind.i64.wrap (0 - 0))))) (0 : Int)).length ≤ lim) then
 bif decide (0 ≤ (([] ++ (List.replicate (Int.toNat (IntKind.i64.wrap (n - (IntKind.i64.wrap (0 - 0))))) (0 : Int))).length : Int)) then
 some ((List.replicate (Int.toNat (IntKind.i64.wrap (n - (IntKind.i64.wrap (0 - 0))))) (0 : Int)).isEmpty, ((([] ++ (List.replicate (Int.toNat (IntKind.i64.wrap (n - (IntKind.i64.wrap (0 - 0))))) (0 : Int))).take 0).drop 0))
else none
else none
else none
else none
else 
 some (true, []) := Eq.trans (inf_call_eq (H := H) 92 n) (by kernel_rfl)
theorem slices_Concat_int_L0_eq (slices : Bool × List (Bool × List Int)) (size_ : Int) (t9 : Bool × List (Bool × List Int)) (t10 : Int) (t11 : Int) : slices_Concat_int_L0 slices size_ t9 t10 t11 =
 bif decide (t11 < t10) then
 bif decide (0 ≤ t11) then
 bif decide (t11 < (t9.2.length : Int)) then
 bif decide ((IntKind.i64.wrap (size_ + (((t9.2.getD (Int.toNat t11) (true, [])).2).length : Int))) < 0) then
 none
else 
(slices_Concat_int_L0 slices (IntKind.i64.wrap (size_ + (((t9.2.getD (Int.toNat t11) (true, [])).2).length : Int))) t9 t10 (IntKind.i64.wrap (t11 + 1))).bind fun r => some r
else none
else none
else 
 some size_ := Eq.trans (inf_loop_eq (H := H) 42 0 (loopCode Tryz.f42 0) (slices, (size_, (t9, (t10, t11)))) key_slices_Concat_int) (by kernel_rfl)
theorem slices_Concat_int_L2_eq (newslice : Bool × List Int) (t25 : Bool × List (Bool × List Int)) (t26 : Int) (t27 : Int) : slices_Concat_int_L2 newslice t25 t26 t27 =
 bif decide (t27 < t26) then
 bif decide (0 ≤ t27) then
 bif decide (t27 < (t25.2.length : Int)) then
 bif decide (newslice.2.length + ((t25.2.getD (Int.toNat t27) (true, [])).2 : List Int).length ≤ lim) then
(slices_Concat_int_L2 ((newslice.1 && ((t25.2.getD (Int.toNat t27) (true, [])).2).isEmpty), (newslice.2 ++ ((t25.2.getD (Int.toNat t27) (true, [])).2))) t25 t26 (IntKind.i64.wrap (t27 + 1))).bind fun r => some r
else none
else none
else none
else 
 some (newslice.1, newslice.2) := Eq.trans (inf_loop_eq (H := H) 42 2 (loopCode Tryz.f42 2) (newslice, (t25, (t26, t27))) key_slices_Concat_int) (by kernel_rfl)
theorem slices_Concat_int_eq (slices : Bool × List (Bool × List Int)) : slices_Concat_int slices =
(slices_Concat_int_L0 slices 0 slices (slices.2.length : Int) 0).bind fun r =>
(slices_Grow_int r).bind fun r1 =>
(slices_Concat_int_L2 (r1.1, r1.2) slices (slices.2.length : Int) 0).bind fun r2 =>
 some (r2.1, r2.2) := Eq.trans (inf_call_eq (H := H) 42 slices) (by kernel_rfl)
theorem impl_Question_areStates_1_eq (no : Int) (a1 : Int) : impl_Question_areStates_1 no a1 =
 bif decide (no < 0) then
 some true
else 
 some (decide (no ≥ a1)) := Eq.trans (inf_call_eq (H := H) 91 (no, a1)) (by kernel_rfl)
theorem slices_IndexFunc_int_by_Question_areStates_1_L0_eq (s : Bool × List Int) (f : Int × Unit) (t7 : Int) (t8 : Int) : slices_IndexFunc_int_by_Question_areStates_1_L0 s f t7 t8 =
 bif decide (t8 < t7) then
 bif decide (0 ≤ t8) then
 bif decide (t8 < (s.2.length : Int)) then
(impl_Question_areStates_1 (s.2.getD (Int.toNat t8) 0) f.1).bind fun r =>
 bif r then
 some (.inl t8)
else 
(slices_IndexFunc_int_by_Question_areStates_1_L0 s f t7 (IntKind.i64.wrap (t8 + 1))).bind fun r => some r
else none
else none
else 
 some (.inr ()) := Eq.trans (inf_loop_eq (H := H) 10109 0 (loopCode Tryz.f147 0) (s, (f, (t7, t8))) key_slices_IndexFunc_int_by_Question_areStates_1) (by kernel_rfl)
theorem slices_IndexFunc_int_by_Question_areStates_1_eq (s : Bool × List Int) (f : Int × Unit) : slices_IndexFunc_int_by_Question_areStates_1 s f =
(slices_IndexFunc_int_by_Question_areStates_1_L0 s f (s.2.length : Int) 0).bind fun r =>
 match r with
| .inl y =>
 some y
| .inr z =>
 some (-1) := Eq.trans (inf_call_eq (H := H) 10109 (s, f)) (by kernel_rfl)
theorem slices_ContainsFunc_int_by_Question_areStates_1_eq (s : Bool × List Int) (f : Int × Unit) : slices_ContainsFunc_int_by_Question_areStates_1 s f =
(slices_IndexFunc_int_by_Question_areStates_1 s f).bind fun r =>
 some (decide (r ≥ 0)) := Eq.trans (inf_call_eq (H := H) 10108 (s, f)) (by kernel_rfl)
theorem impl_Question_areStates_eq (q : DQuestion) (stem : Bool × List Int) (loop : Bool × List Int) : impl_Question_areStates q stem loop =
(impl_GoodQuestion q).bind fun r =>
 bif !r then
 some false
else 
 bif decide ((stem.2.length : Int) > 2000) then
 some false
else 
 bif decide ((loop.2.length : Int) < 1) then
 some false
else 
 bif decide ((loop.2.length : Int) > 2000) then
 some false
else 
(impl_Program_states q.1).bind fun r1 =>
(slices_Concat_int (false, [stem, loop])).bind fun r2 =>
(slices_ContainsFunc_int_by_Question_areStates_1 (r2.1, r2.2) (r1, ())).bind fun r3 =>
 some (!r3) := Eq.trans (inf_call_eq (H := H) 41 (q, (stem, loop))) (by kernel_rfl)
theorem impl_Program_stateOf_L0_eq (no : Int) (p : DProgram) (out : Bool × List Int) (t9 : Int) (t10 : Int) : impl_Program_stateOf_L0 no p out t9 t10 =
 bif decide (t10 < t9) then
 bif decide ((IntKind.i64.wrap (p.1 * t10)) < 0) then
 none
else 
(impl_mask p.1).bind fun r =>
 bif decide (out.2.length + [bAnd .u64 (bShr .u64 (IntKind.u64.wrap no) (IntKind.i64.wrap (p.1 * t10))) r].length ≤ lim) then
(impl_Program_stateOf_L0 no p ((out.1 && false), (out.2 ++ [bAnd .u64 (bShr .u64 (IntKind.u64.wrap no) (IntKind.i64.wrap (p.1 * t10))) r])) t9 (IntKind.i64.wrap (t10 + 1))).bind fun r => some r
else none
else 
 some (out.1, out.2) := Eq.trans (inf_loop_eq (H := H) 44 0 (loopCode Tryz.f44 0) (no, (p, (out, (t9, t10)))) key_impl_Program_stateOf) (by kernel_rfl)
theorem impl_Program_stateOf_eq (p : DProgram) (no : Int) : impl_Program_stateOf p no =
(impl_Program_stateOf_L0 no p (false, []) p.2.1 0).bind fun r =>
 some (r.1, r.2) := Eq.trans (inf_call_eq (H := H) 44 (p, no)) (by kernel_rfl)
theorem impl_areWords_eq (wide : Int) (a : Int) (b : Int) : impl_areWords wide a b =
(impl_GoodWord wide a).bind fun r =>
 bif r then
(impl_GoodWord wide b).bind fun r1 =>
 some r1
else 
 some false := Eq.trans (inf_call_eq (H := H) 270 (wide, (a, b))) (by kernel_rfl)
theorem bits_Div64_eq (hi : Int) (lo : Int) (y : Int) : bits_Div64 hi lo y =
 bif (y == 0) then
 none
else 
 bif decide (y ≤ hi) then
 none
else 
 bif (hi == 0) then
 bif (y == 0) then
 none
else 
 bif (y == 0) then
 none
else 
 some (IntKind.u64.wrap (Int.tdiv lo y), Int.tmod lo y)
else none := Eq.trans (inf_call_eq (H := H) 271 (hi, (lo, y))) (by kernel_rfl)
theorem impl_DivWord_eq (wide : Int) (a : Int) (b : Int) : impl_DivWord wide a b =
(impl_areWords wide a b).bind fun r =>
 bif !r then
 some (0, (0, false))
else 
 bif (b == 0) then
(impl_mask wide).bind fun r1 =>
 some (r1, (a, true))
else 
(bits_Div64 0 a b).bind fun r2 =>
 some (r2.1, (r2.2, true)) := Eq.trans (inf_call_eq (H := H) 213 (wide, (a, b))) (by kernel_rfl)
theorem impl_shift_eq (wide : Int) (a : Int) (by_ : Int) (left_ : Bool) : impl_shift wide a by_ left_ =
 bif decide (by_ ≥ (IntKind.u64.wrap wide)) then
 some 0
else 
 bif left_ then
 bif decide (by_ < 0) then
 none
else 
(impl_mask wide).bind fun r =>
 some (bAnd .u64 (bShl .u64 a by_) r)
else 
 bif decide (by_ < 0) then
 none
else 
 some (bShr .u64 a by_) := Eq.trans (inf_call_eq (H := H) 214 (wide, (a, (by_, left_)))) (by kernel_rfl)
theorem impl_truth_eq (holds : Bool) : impl_truth holds =
 bif holds then
 some 1
else 
 some 0 := Eq.trans (inf_call_eq (H := H) 215 holds) (by kernel_rfl)
theorem impl_signed_eq (wide : Int) (a : Int) : impl_signed wide a =
 bif decide ((IntKind.i64.wrap (64 - wide)) < 0) then
 none
else 
 bif decide ((IntKind.i64.wrap (64 - wide)) < 0) then
 none
else 
 some (bShr .i64 (IntKind.i64.wrap (bShl .u64 a (IntKind.i64.wrap (64 - wide)))) (IntKind.i64.wrap (64 - wide))) := Eq.trans (inf_call_eq (H := H) 216 (wide, a)) (by kernel_rfl)
theorem impl_apply_eq (wide : Int) (op : Int) (a : Int) (b : Int) : impl_apply wide op a b =
 bif (op == 3) then
(impl_mask wide).bind fun r =>
 some (bAnd .u64 (IntKind.u64.wrap (a + b)) r)
else 
 bif (op == 4) then
(impl_mask wide).bind fun r1 =>
 some (bAnd .u64 (IntKind.u64.wrap (a - b)) r1)
else 
 bif (op == 5) then
(impl_mask wide).bind fun r2 =>
 some (bAnd .u64 (IntKind.u64.wrap (a * b)) r2)
else 
 bif (op == 6) then
(impl_DivWord wide a b).bind fun r3 =>
(impl_mask wide).bind fun r4 =>
 some (bAnd .u64 r3.1 r4)
else 
 bif (op == 7) then
(impl_DivWord wide a b).bind fun r5 =>
(impl_mask wide).bind fun r6 =>
 some (bAnd .u64 r5.2.1 r6)
else 
 bif (op == 8) then
 bif (op == 8) then
(impl_mask wide).bind fun r7 =>
 some (bAnd .u64 (bAnd .u64 a b) r7)
else 
 bif (op == 9) then
 bif (op == 9) then
(impl_mask wide).bind fun r8 =>
 some (bAnd .u64 (bOr .u64 a b) r8)
else 
 bif (op == 10) then
(impl_mask wide).bind fun r9 =>
 some (bAnd .u64 (bXor .u64 a b) r9)
else 
 bif (op == 11) then
 bif (op == 11) then
(impl_shift wide a b (op == 11)).bind fun r10 =>
(impl_mask wide).bind fun r11 =>
 some (bAnd .u64 r10 r11)
else 
 bif (op == 14) then
(impl_truth (a == b)).bind fun r12 =>
(impl_mask wide).bind fun r13 =>
 some (bAnd .u64 r12 r13)
else 
 bif (op == 15) then
(impl_truth (decide (a < b))).bind fun r14 =>
(impl_mask wide).bind fun r15 =>
 some (bAnd .u64 r14 r15)
else 
 bif (op == 16) then
(impl_signed wide a).bind fun r16 =>
(impl_signed wide b).bind fun r17 =>
(impl_truth (decide (r16 < r17))).bind fun r18 =>
(impl_mask wide).bind fun r19 =>
 some (bAnd .u64 r18 r19)
else 
(impl_mask wide).bind fun r20 =>
 some (bAnd .u64 0 r20)
else 
 bif (op == 12) then
(impl_shift wide a b (op == 11)).bind fun r21 =>
(impl_mask wide).bind fun r22 =>
 some (bAnd .u64 r21 r22)
else 
 bif (op == 14) then
(impl_truth (a == b)).bind fun r23 =>
(impl_mask wide).bind fun r24 =>
 some (bAnd .u64 r23 r24)
else 
 bif (op == 15) then
(impl_truth (decide (a < b))).bind fun r25 =>
(impl_mask wide).bind fun r26 =>
 some (bAnd .u64 r25 r26)
else 
 bif (op == 16) then
(impl_signed wide a).bind fun r27 =>
(impl_signed wide b).bind fun r28 =>
(impl_truth (decide (r27 < r28))).bind fun r29 =>
(impl_mask wide).bind fun r30 =>
 some (bAnd .u64 r29 r30)
else 
(impl_mask wide).bind fun r31 =>
 some (bAnd .u64 0 r31)
else 
 bif (op == 18) then
(impl_mask wide).bind fun r32 =>
 some (bAnd .u64 (bOr .u64 a b) r32)
else 
 bif (op == 10) then
(impl_mask wide).bind fun r33 =>
 some (bAnd .u64 (bXor .u64 a b) r33)
else 
 bif (op == 11) then
 bif (op == 11) then
(impl_shift wide a b (op == 11)).bind fun r34 =>
(impl_mask wide).bind fun r35 =>
 some (bAnd .u64 r34 r35)
else 
 bif (op == 14) then
(impl_truth (a == b)).bind fun r36 =>
(impl_mask wide).bind fun r37 =>
 some (bAnd .u64 r36 r37)
else 
 bif (op == 15) then
(impl_truth (decide (a < b))).bind fun r38 =>
(impl_mask wide).bind fun r39 =>
 some (bAnd .u64 r38 r39)
else 
 bif (op == 16) then
(impl_signed wide a).bind fun r40 =>
(impl_signed wide b).bind fun r41 =>
(impl_truth (decide (r40 < r41))).bind fun r42 =>
(impl_mask wide).bind fun r43 =>
 some (bAnd .u64 r42 r43)
else 
(impl_mask wide).bind fun r44 =>
 some (bAnd .u64 0 r44)
else 
 bif (op == 12) then
(impl_shift wide a b (op == 11)).bind fun r45 =>
(impl_mask wide).bind fun r46 =>
 some (bAnd .u64 r45 r46)
else 
 bif (op == 14) then
(impl_truth (a == b)).bind fun r47 =>
(impl_mask wide).bind fun r48 =>
 some (bAnd .u64 r47 r48)
else 
 bif (op == 15) then
(impl_truth (decide (a < b))).bind fun r49 =>
(impl_mask wide).bind fun r50 =>
 some (bAnd .u64 r49 r50)
else 
 bif (op == 16) then
(impl_signed wide a).bind fun r51 =>
(impl_signed wide b).bind fun r52 =>
(impl_truth (decide (r51 < r52))).bind fun r53 =>
(impl_mask wide).bind fun r54 =>
 some (bAnd .u64 r53 r54)
else 
(impl_mask wide).bind fun r55 =>
 some (bAnd .u64 0 r55)
else 
 bif (op == 17) then
(impl_mask wide).bind fun r56 =>
 some (bAnd .u64 (bAnd .u64 a b) r56)
else 
 bif (op == 9) then
 bif (op == 9) then
(impl_mask wide).bind fun r57 =>
 some (bAnd .u64 (bOr .u64 a b) r57)
else 
 bif (op == 10) then
(impl_mask wide).bind fun r58 =>
 some (bAnd .u64 (bXor .u64 a b) r58)
else 
 bif (op == 11) then
 bif (op == 11) then
(impl_shift wide a b (op == 11)).bind fun r59 =>
(impl_mask wide).bind fun r60 =>
 some (bAnd .u64 r59 r60)
else 
 bif (op == 14) then
(impl_truth (a == b)).bind fun r61 =>
(impl_mask wide).bind fun r62 =>
 some (bAnd .u64 r61 r62)
else 
 bif (op == 15) then
(impl_truth (decide (a < b))).bind fun r63 =>
(impl_mask wide).bind fun r64 =>
 some (bAnd .u64 r63 r64)
else 
 bif (op == 16) then
(impl_signed wide a).bind fun r65 =>
(impl_signed wide b).bind fun r66 =>
(impl_truth (decide (r65 < r66))).bind fun r67 =>
(impl_mask wide).bind fun r68 =>
 some (bAnd .u64 r67 r68)
else 
(impl_mask wide).bind fun r69 =>
 some (bAnd .u64 0 r69)
else 
 bif (op == 12) then
(impl_shift wide a b (op == 11)).bind fun r70 =>
(impl_mask wide).bind fun r71 =>
 some (bAnd .u64 r70 r71)
else 
 bif (op == 14) then
(impl_truth (a == b)).bind fun r72 =>
(impl_mask wide).bind fun r73 =>
 some (bAnd .u64 r72 r73)
else 
 bif (op == 15) then
(impl_truth (decide (a < b))).bind fun r74 =>
(impl_mask wide).bind fun r75 =>
 some (bAnd .u64 r74 r75)
else 
 bif (op == 16) then
(impl_signed wide a).bind fun r76 =>
(impl_signed wide b).bind fun r77 =>
(impl_truth (decide (r76 < r77))).bind fun r78 =>
(impl_mask wide).bind fun r79 =>
 some (bAnd .u64 r78 r79)
else 
(impl_mask wide).bind fun r80 =>
 some (bAnd .u64 0 r80)
else 
 bif (op == 18) then
(impl_mask wide).bind fun r81 =>
 some (bAnd .u64 (bOr .u64 a b) r81)
else 
 bif (op == 10) then
(impl_mask wide).bind fun r82 =>
 some (bAnd .u64 (bXor .u64 a b) r82)
else 
 bif (op == 11) then
 bif (op == 11) then
(impl_shift wide a b (op == 11)).bind fun r83 =>
(impl_mask wide).bind fun r84 =>
 some (bAnd .u64 r83 r84)
else 
 bif (op == 14) then
(impl_truth (a == b)).bind fun r85 =>
(impl_mask wide).bind fun r86 =>
 some (bAnd .u64 r85 r86)
else 
 bif (op == 15) then
(impl_truth (decide (a < b))).bind fun r87 =>
(impl_mask wide).bind fun r88 =>
 some (bAnd .u64 r87 r88)
else 
 bif (op == 16) then
(impl_signed wide a).bind fun r89 =>
(impl_signed wide b).bind fun r90 =>
(impl_truth (decide (r89 < r90))).bind fun r91 =>
(impl_mask wide).bind fun r92 =>
 some (bAnd .u64 r91 r92)
else 
(impl_mask wide).bind fun r93 =>
 some (bAnd .u64 0 r93)
else 
 bif (op == 12) then
(impl_shift wide a b (op == 11)).bind fun r94 =>
(impl_mask wide).bind fun r95 =>
 some (bAnd .u64 r94 r95)
else 
 bif (op == 14) then
(impl_truth (a == b)).bind fun r96 =>
(impl_mask wide).bind fun r97 =>
 some (bAnd .u64 r96 r97)
else 
 bif (op == 15) then
(impl_truth (decide (a < b))).bind fun r98 =>
(impl_mask wide).bind fun r99 =>
 some (bAnd .u64 r98 r99)
else 
 bif (op == 16) then
(impl_signed wide a).bind fun r100 =>
(impl_signed wide b).bind fun r101 =>
(impl_truth (decide (r100 < r101))).bind fun r102 =>
(impl_mask wide).bind fun r103 =>
 some (bAnd .u64 r102 r103)
else 
(impl_mask wide).bind fun r104 =>
 some (bAnd .u64 0 r104) := Eq.trans (inf_call_eq (H := H) 148 (wide, (op, (a, b)))) (by kernel_rfl)
theorem impl_valueOf_L0_eq (wide : Int) (state : Bool × List Int) (stack : Bool × List Int) (t12 : Bool × List DNode) (t13 : Int) (t14 : Int) : impl_valueOf_L0 wide state stack t12 t13 t14 =
 bif decide (t14 < t13) then
 bif decide (0 ≤ t14) then
 bif decide (t14 < (t12.2.length : Int)) then
 bif (((t12.2.getD (Int.toNat t14) (0, 0)).1) == 1) then
 bif (((t12.2.getD (Int.toNat t14) (0, 0)).1) == 1) then
 bif decide (stack.2.length + [(t12.2.getD (Int.toNat t14) (0, 0)).2].length ≤ lim) then
(impl_valueOf_L0 wide state ((stack.1 && false), (stack.2 ++ [(t12.2.getD (Int.toNat t14) (0, 0)).2])) t12 t13 (IntKind.i64.wrap (t14 + 1))).bind fun r => some r
else none
else 
 bif (((t12.2.getD (Int.toNat t14) (0, 0)).1) == 2) then
 bif decide (0 ≤ ((t12.2.getD (Int.toNat t14) (0, 0)).2)) then
 bif decide (((t12.2.getD (Int.toNat t14) (0, 0)).2) < (state.2.length : Int)) then
 bif decide (stack.2.length + [(state.2.getD (Int.toNat ((t12.2.getD (Int.toNat t14) (0, 0)).2)) 0)].length ≤ lim) then
(impl_valueOf_L0 wide state ((stack.1 && false), (stack.2 ++ [(state.2.getD (Int.toNat ((t12.2.getD (Int.toNat t14) (0, 0)).2)) 0)])) t12 t13 (IntKind.i64.wrap (t14 + 1))).bind fun r => some r
else none
else none
else none
else 
 bif (((t12.2.getD (Int.toNat t14) (0, 0)).1) == 13) then
 bif decide (0 ≤ (IntKind.i64.wrap ((stack.2.length : Int) - 1))) then
 bif decide ((IntKind.i64.wrap ((stack.2.length : Int) - 1)) < (stack.2.length : Int)) then
(impl_mask wide).bind fun r =>
 bif decide (0 ≤ (IntKind.i64.wrap ((stack.2.length : Int) - 1))) then
 bif decide ((IntKind.i64.wrap ((stack.2.length : Int) - 1)) < (stack.2.length : Int)) then
(impl_valueOf_L0 wide state (stack.1, (stack.2.set (Int.toNat (IntKind.i64.wrap ((stack.2.length : Int) - 1))) (bAnd .u64 (bXor .u64 18446744073709551615 (stack.2.getD (Int.toNat (IntKind.i64.wrap ((stack.2.length : Int) - 1))) 0)) r))) t12 t13 (IntKind.i64.wrap (t14 + 1))).bind fun r => some r
else none
else none
else none
else none
else 
 bif (((t12.2.getD (Int.toNat t14) (0, 0)).1) == 19) then
 bif decide (0 ≤ (IntKind.i64.wrap ((stack.2.length : Int) - 1))) then
 bif decide ((IntKind.i64.wrap ((stack.2.length : Int) - 1)) < (stack.2.length : Int)) then
 bif decide (0 ≤ (IntKind.i64.wrap ((stack.2.length : Int) - 1))) then
 bif decide ((IntKind.i64.wrap ((stack.2.length : Int) - 1)) < (stack.2.length : Int)) then
(impl_valueOf_L0 wide state (stack.1, (stack.2.set (Int.toNat (IntKind.i64.wrap ((stack.2.length : Int) - 1))) (IntKind.u64.wrap (1 - (stack.2.getD (Int.toNat (IntKind.i64.wrap ((stack.2.length : Int) - 1))) 0))))) t12 t13 (IntKind.i64.wrap (t14 + 1))).bind fun r => some r
else none
else none
else none
else none
else 
 bif decide (0 ≤ (IntKind.i64.wrap ((IntKind.i64.wrap ((stack.2.length : Int) - 1)) - 1))) then
 bif decide ((IntKind.i64.wrap ((IntKind.i64.wrap ((stack.2.length : Int) - 1)) - 1)) ≤ (stack.2.length : Int)) then
 bif decide (0 ≤ (IntKind.i64.wrap ((IntKind.i64.wrap ((stack.2.length : Int) - 1)) - 1))) then
 bif decide ((IntKind.i64.wrap ((IntKind.i64.wrap ((stack.2.length : Int) - 1)) - 1)) < (stack.2.length : Int)) then
 bif decide (0 ≤ (IntKind.i64.wrap ((stack.2.length : Int) - 1))) then
 bif decide ((IntKind.i64.wrap ((stack.2.length : Int) - 1)) < (stack.2.length : Int)) then
(impl_apply wide ((t12.2.getD (Int.toNat t14) (0, 0)).1) (stack.2.getD (Int.toNat (IntKind.i64.wrap ((IntKind.i64.wrap ((stack.2.length : Int) - 1)) - 1))) 0) (stack.2.getD (Int.toNat (IntKind.i64.wrap ((stack.2.length : Int) - 1))) 0)).bind fun r1 =>
 bif decide (((stack.2.take (Int.toNat (IntKind.i64.wrap ((IntKind.i64.wrap ((stack.2.length : Int) - 1)) - 1)))).drop 0).length + [r1].length ≤ lim) then
(impl_valueOf_L0 wide state ((stack.1 && false), (((stack.2.take (Int.toNat (IntKind.i64.wrap ((IntKind.i64.wrap ((stack.2.length : Int) - 1)) - 1)))).drop 0) ++ [r1])) t12 t13 (IntKind.i64.wrap (t14 + 1))).bind fun r => some r
else none
else none
else none
else none
else none
else none
else none
else 
 bif (((t12.2.getD (Int.toNat t14) (0, 0)).1) == 20) then
 bif decide (stack.2.length + [(t12.2.getD (Int.toNat t14) (0, 0)).2].length ≤ lim) then
(impl_valueOf_L0 wide state ((stack.1 && false), (stack.2 ++ [(t12.2.getD (Int.toNat t14) (0, 0)).2])) t12 t13 (IntKind.i64.wrap (t14 + 1))).bind fun r => some r
else none
else 
 bif (((t12.2.getD (Int.toNat t14) (0, 0)).1) == 2) then
 bif decide (0 ≤ ((t12.2.getD (Int.toNat t14) (0, 0)).2)) then
 bif decide (((t12.2.getD (Int.toNat t14) (0, 0)).2) < (state.2.length : Int)) then
 bif decide (stack.2.length + [(state.2.getD (Int.toNat ((t12.2.getD (Int.toNat t14) (0, 0)).2)) 0)].length ≤ lim) then
(impl_valueOf_L0 wide state ((stack.1 && false), (stack.2 ++ [(state.2.getD (Int.toNat ((t12.2.getD (Int.toNat t14) (0, 0)).2)) 0)])) t12 t13 (IntKind.i64.wrap (t14 + 1))).bind fun r => some r
else none
else none
else none
else 
 bif (((t12.2.getD (Int.toNat t14) (0, 0)).1) == 13) then
 bif decide (0 ≤ (IntKind.i64.wrap ((stack.2.length : Int) - 1))) then
 bif decide ((IntKind.i64.wrap ((stack.2.length : Int) - 1)) < (stack.2.length : Int)) then
(impl_mask wide).bind fun r2 =>
 bif decide (0 ≤ (IntKind.i64.wrap ((stack.2.length : Int) - 1))) then
 bif decide ((IntKind.i64.wrap ((stack.2.length : Int) - 1)) < (stack.2.length : Int)) then
(impl_valueOf_L0 wide state (stack.1, (stack.2.set (Int.toNat (IntKind.i64.wrap ((stack.2.length : Int) - 1))) (bAnd .u64 (bXor .u64 18446744073709551615 (stack.2.getD (Int.toNat (IntKind.i64.wrap ((stack.2.length : Int) - 1))) 0)) r2))) t12 t13 (IntKind.i64.wrap (t14 + 1))).bind fun r => some r
else none
else none
else none
else none
else 
 bif (((t12.2.getD (Int.toNat t14) (0, 0)).1) == 19) then
 bif decide (0 ≤ (IntKind.i64.wrap ((stack.2.length : Int) - 1))) then
 bif decide ((IntKind.i64.wrap ((stack.2.length : Int) - 1)) < (stack.2.length : Int)) then
 bif decide (0 ≤ (IntKind.i64.wrap ((stack.2.length : Int) - 1))) then
 bif decide ((IntKind.i64.wrap ((stack.2.length : Int) - 1)) < (stack.2.length : Int)) then
(impl_valueOf_L0 wide state (stack.1, (stack.2.set (Int.toNat (IntKind.i64.wrap ((stack.2.length : Int) - 1))) (IntKind.u64.wrap (1 - (stack.2.getD (Int.toNat (IntKind.i64.wrap ((stack.2.length : Int) - 1))) 0))))) t12 t13 (IntKind.i64.wrap (t14 + 1))).bind fun r => some r
else none
else none
else none
else none
else 
 bif decide (0 ≤ (IntKind.i64.wrap ((IntKind.i64.wrap ((stack.2.length : Int) - 1)) - 1))) then
 bif decide ((IntKind.i64.wrap ((IntKind.i64.wrap ((stack.2.length : Int) - 1)) - 1)) ≤ (stack.2.length : Int)) then
 bif decide (0 ≤ (IntKind.i64.wrap ((IntKind.i64.wrap ((stack.2.length : Int) - 1)) - 1))) then
 bif decide ((IntKind.i64.wrap ((IntKind.i64.wrap ((stack.2.length : Int) - 1)) - 1)) < (stack.2.length : Int)) then
 bif decide (0 ≤ (IntKind.i64.wrap ((stack.2.length : Int) - 1))) then
 bif decide ((IntKind.i64.wrap ((stack.2.length : Int) - 1)) < (stack.2.length : Int)) then
(impl_apply wide ((t12.2.getD (Int.toNat t14) (0, 0)).1) (stack.2.getD (Int.toNat (IntKind.i64.wrap ((IntKind.i64.wrap ((stack.2.length : Int) - 1)) - 1))) 0) (stack.2.getD (Int.toNat (IntKind.i64.wrap ((stack.2.length : Int) - 1))) 0)).bind fun r3 =>
 bif decide (((stack.2.take (Int.toNat (IntKind.i64.wrap ((IntKind.i64.wrap ((stack.2.length : Int) - 1)) - 1)))).drop 0).length + [r3].length ≤ lim) then
(impl_valueOf_L0 wide state ((stack.1 && false), (((stack.2.take (Int.toNat (IntKind.i64.wrap ((IntKind.i64.wrap ((stack.2.length : Int) - 1)) - 1)))).drop 0) ++ [r3])) t12 t13 (IntKind.i64.wrap (t14 + 1))).bind fun r => some r
else none
else none
else none
else none
else none
else none
else none
else none
else none
else 
 some (stack.1, stack.2) := Eq.trans (inf_loop_eq (H := H) 93 0 (loopCode Tryz.f93 0) (wide, (state, (stack, (t12, (t13, t14))))) key_impl_valueOf) (by kernel_rfl)
theorem impl_valueOf_eq (wide : Int) (t : Bool × List DNode) (state : Bool × List Int) : impl_valueOf wide t state =
(impl_valueOf_L0 wide state (false, []) t (t.2.length : Int) 0).bind fun r =>
 bif decide (0 < (r.2.length : Int)) then
 some (r.2.getD 0 0)
else none := Eq.trans (inf_call_eq (H := H) 93 (wide, (t, state))) (by kernel_rfl)
theorem impl_Program_holds_eq (p : DProgram) (t : Bool × List DNode) (s : Bool × List Int) : impl_Program_holds p t s =
(impl_valueOf p.1 t s).bind fun r =>
 some (r == 1) := Eq.trans (inf_call_eq (H := H) 43 (p, (t, s))) (by kernel_rfl)
theorem slices_Clone_uint64_eq (s : Bool × List Int) : slices_Clone_uint64 s =
 bif s.1 then
 some (true, [])
else 
 bif decide (([] : List Int).length + s.2.length ≤ lim) then
 some (false, ([] ++ s.2))
else none := Eq.trans (inf_call_eq (H := H) 272 s) (by kernel_rfl)
theorem impl_Program_after_L0_eq (s : Bool × List Int) (p : DProgram) (out : Bool × List Int) (t13 : Bool × List DChange) (t14 : Int) (t15 : Int) : impl_Program_after_L0 s p out t13 t14 t15 =
 bif decide (t15 < t14) then
 bif decide (0 ≤ t15) then
 bif decide (t15 < (t13.2.length : Int)) then
(impl_valueOf p.1 ((t13.2.getD (Int.toNat t15) (0, (true, []))).2) s).bind fun r =>
 bif decide (0 ≤ ((t13.2.getD (Int.toNat t15) (0, (true, []))).1)) then
 bif decide (((t13.2.getD (Int.toNat t15) (0, (true, []))).1) < (out.2.length : Int)) then
(impl_Program_after_L0 s p (out.1, (out.2.set (Int.toNat ((t13.2.getD (Int.toNat t15) (0, (true, []))).1)) r)) t13 t14 (IntKind.i64.wrap (t15 + 1))).bind fun r => some r
else none
else none
else none
else none
else 
 some (out.1, out.2) := Eq.trans (inf_loop_eq (H := H) 218 0 (loopCode Tryz.f218 0) (s, (p, (out, (t13, (t14, t15))))) key_impl_Program_after) (by kernel_rfl)
theorem impl_Program_after_eq (p : DProgram) (c : DCommand) (s : Bool × List Int) : impl_Program_after p c s =
(slices_Clone_uint64 s).bind fun r =>
(impl_Program_after_L0 s p (r.1, r.2) c.2 (c.2.2.length : Int) 0).bind fun r1 =>
 some (r1.1, r1.2) := Eq.trans (inf_call_eq (H := H) 218 (p, (c, s))) (by kernel_rfl)
theorem impl_Program_stateNo_L0_eq (p : DProgram) (no : Int) (t8 : Bool × List Int) (t9 : Int) (t10 : Int) : impl_Program_stateNo_L0 p no t8 t9 t10 =
 bif decide (t10 < t9) then
 bif decide (0 ≤ t10) then
 bif decide (t10 < (t8.2.length : Int)) then
 bif decide ((IntKind.i64.wrap (p.1 * t10)) < 0) then
 none
else 
(impl_Program_stateNo_L0 p (bOr .i64 no (bShl .i64 (IntKind.i64.wrap (t8.2.getD (Int.toNat t10) 0)) (IntKind.i64.wrap (p.1 * t10)))) t8 t9 (IntKind.i64.wrap (t10 + 1))).bind fun r => some r
else none
else none
else 
 some no := Eq.trans (inf_loop_eq (H := H) 217 0 (loopCode Tryz.f217 0) (p, (no, (t8, (t9, t10)))) key_impl_Program_stateNo) (by kernel_rfl)
theorem impl_Program_stateNo_eq (p : DProgram) (s : Bool × List Int) : impl_Program_stateNo p s =
(impl_Program_stateNo_L0 p 0 s (s.2.length : Int) 0).bind fun r =>
 some r := Eq.trans (inf_call_eq (H := H) 217 (p, s)) (by kernel_rfl)
theorem impl_Program_nextOf_L0_eq (no : Int) (p : DProgram) (s : Bool × List Int) (out : Bool × List Int) (t14 : Bool × List DCommand) (t15 : Int) (t16 : Int) : impl_Program_nextOf_L0 no p s out t14 t15 t16 =
 bif decide (t16 < t15) then
 bif decide (0 ≤ t16) then
 bif decide (t16 < (t14.2.length : Int)) then
(impl_Program_holds p ((t14.2.getD (Int.toNat t16) ((true, []), (true, []))).1) s).bind fun r =>
 bif r then
(impl_Program_after p (t14.2.getD (Int.toNat t16) ((true, []), (true, []))) s).bind fun r1 =>
(impl_Program_stateNo p (r1.1, r1.2)).bind fun r2 =>
 bif decide (out.2.length + [r2].length ≤ lim) then
(impl_Program_nextOf_L0 no p s ((out.1 && false), (out.2 ++ [r2])) t14 t15 (IntKind.i64.wrap (t16 + 1))).bind fun r => some r
else none
else 
(impl_Program_nextOf_L0 no p s (out.1, out.2) t14 t15 (IntKind.i64.wrap (t16 + 1))).bind fun r => some r
else none
else none
else 
 some (out.1, out.2) := Eq.trans (inf_loop_eq (H := H) 149 0 (loopCode Tryz.f149 0) (no, (p, (s, (out, (t14, (t15, t16)))))) key_impl_Program_nextOf) (by kernel_rfl)
theorem impl_Program_nextOf_eq (p : DProgram) (no : Int) : impl_Program_nextOf p no =
(impl_Program_stateOf p no).bind fun r =>
(impl_Program_nextOf_L0 no p (r.1, r.2) (false, []) p.2.2.2 (p.2.2.2.2.length : Int) 0).bind fun r1 =>
 bif ((r1.2.length : Int) == 0) then
 some (false, [no])
else 
(slices_Sort_int (r1.1, r1.2)).bind fun r2 =>
(slices_Compact_int (r2.1, r2.2)).bind fun r3 =>
 some (r3.1, r3.2) := Eq.trans (inf_call_eq (H := H) 149 (p, no)) (by kernel_rfl)
theorem impl_Program_graph_L0_eq (p : DProgram) (out : Bool × List (Bool × List Int)) (t7 : Int) (t8 : Int) : impl_Program_graph_L0 p out t7 t8 =
 bif decide (t8 < t7) then
(impl_Program_nextOf p t8).bind fun r =>
 bif decide (out.2.length + [(r.1, r.2)].length ≤ lim) then
(impl_Program_graph_L0 p ((out.1 && false), (out.2 ++ [(r.1, r.2)])) t7 (IntKind.i64.wrap (t8 + 1))).bind fun r => some r
else none
else 
 some (out.1, out.2) := Eq.trans (inf_loop_eq (H := H) 95 0 (loopCode Tryz.f95 0) (p, (out, (t7, t8))) key_impl_Program_graph) (by kernel_rfl)
theorem impl_Program_graph_eq (p : DProgram) : impl_Program_graph p =
(impl_Program_states p).bind fun r =>
(impl_Program_graph_L0 p (false, []) r 0).bind fun r1 =>
 some (r1.1, r1.2) := Eq.trans (inf_call_eq (H := H) 95 p) (by kernel_rfl)
theorem slices_Index_int_L0_eq (s : Bool × List Int) (v : Int) (t7 : Int) (t8 : Int) : slices_Index_int_L0 s v t7 t8 =
 bif decide (t8 < t7) then
 bif decide (0 ≤ t8) then
 bif decide (t8 < (s.2.length : Int)) then
 bif (v == (s.2.getD (Int.toNat t8) 0)) then
 some (.inl t8)
else 
(slices_Index_int_L0 s v t7 (IntKind.i64.wrap (t8 + 1))).bind fun r => some r
else none
else none
else 
 some (.inr ()) := Eq.trans (inf_loop_eq (H := H) 150 0 (loopCode Tryz.f150 0) (s, (v, (t7, t8))) key_slices_Index_int) (by kernel_rfl)
theorem slices_Index_int_eq (s : Bool × List Int) (v : Int) : slices_Index_int s v =
(slices_Index_int_L0 s v (s.2.length : Int) 0).bind fun r =>
 match r with
| .inl y =>
 some y
| .inr z =>
 some (-1) := Eq.trans (inf_call_eq (H := H) 150 (s, v)) (by kernel_rfl)
theorem slices_Contains_int_eq (s : Bool × List Int) (v : Int) : slices_Contains_int s v =
(slices_Index_int s v).bind fun r =>
 some (decide (r ≥ 0)) := Eq.trans (inf_call_eq (H := H) 96 (s, v)) (by kernel_rfl)
theorem impl_Question_isRun_L0_eq (q : DQuestion) (way : Bool × List Int) (next : Bool × List (Bool × List Int)) (i : Int) : impl_Question_isRun_L0 q way next i =
 bif decide (i < (way.2.length : Int)) then
 bif decide (0 ≤ (IntKind.i64.wrap (i - 1))) then
 bif decide ((IntKind.i64.wrap (i - 1)) < (way.2.length : Int)) then
 bif decide (0 ≤ (way.2.getD (Int.toNat (IntKind.i64.wrap (i - 1))) 0)) then
 bif decide ((way.2.getD (Int.toNat (IntKind.i64.wrap (i - 1))) 0) < (next.2.length : Int)) then
 bif decide (0 ≤ i) then
 bif decide (i < (way.2.length : Int)) then
(slices_Contains_int (next.2.getD (Int.toNat (way.2.getD (Int.toNat (IntKind.i64.wrap (i - 1))) 0)) (true, [])) (way.2.getD (Int.toNat i) 0)).bind fun r =>
 bif !r then
 some (.inl false)
else 
(impl_Question_isRun_L0 q way next (IntKind.i64.wrap (i + 1))).bind fun r => some r
else none
else none
else none
else none
else none
else none
else 
 some (.inr ()) := Eq.trans (inf_loop_eq (H := H) 45 0 (loopCode Tryz.f45 0) (q, (way, (next, i))) key_impl_Question_isRun) (by kernel_rfl)
theorem impl_Question_isRun_eq (q : DQuestion) (stem : Bool × List Int) (loop : Bool × List Int) : impl_Question_isRun q stem loop =
 bif decide (1 ≤ (loop.2.length : Int)) then
(slices_Concat_int (false, [stem, loop, (loop.1, ((loop.2.take 1).drop 0))])).bind fun r =>
(impl_Program_graph q.1).bind fun r1 =>
(impl_Question_isRun_L0 q (r.1, r.2) (r1.1, r1.2) 1).bind fun r2 =>
 match r2 with
| .inl y =>
 some y
| .inr z =>
 bif decide (0 < (r.2.length : Int)) then
(impl_Program_stateOf q.1 (r.2.getD 0 0)).bind fun r3 =>
(impl_Program_holds q.1 q.1.2.2.1 (r3.1, r3.2)).bind fun r4 =>
 some r4
else none
else none := Eq.trans (inf_call_eq (H := H) 45 (q, (stem, loop))) (by kernel_rfl)
theorem impl_Question_letterOf_L0_eq (q : DQuestion) (s : Bool × List Int) (letter : Int) (t14 : Bool × List (Bool × List DNode)) (t15 : Int) (t16 : Int) : impl_Question_letterOf_L0 q s letter t14 t15 t16 =
 bif decide (t16 < t15) then
 bif decide (0 ≤ t16) then
 bif decide (t16 < (t14.2.length : Int)) then
(impl_Program_holds q.1 (t14.2.getD (Int.toNat t16) (true, [])) s).bind fun r =>
 bif r then
 bif decide (t16 < 0) then
 none
else 
(impl_Question_letterOf_L0 q s (bOr .i64 letter (bShl .i64 1 t16)) t14 t15 (IntKind.i64.wrap (t16 + 1))).bind fun r => some r
else 
(impl_Question_letterOf_L0 q s letter t14 t15 (IntKind.i64.wrap (t16 + 1))).bind fun r => some r
else none
else none
else 
 some letter := Eq.trans (inf_loop_eq (H := H) 97 0 (loopCode Tryz.f97 0) (q, (s, (letter, (t14, (t15, t16))))) key_impl_Question_letterOf) (by kernel_rfl)
theorem impl_Question_letterOf_eq (q : DQuestion) (no : Int) : impl_Question_letterOf q no =
(impl_Program_stateOf q.1 no).bind fun r =>
(impl_Question_letterOf_L0 q (r.1, r.2) 0 q.2.1 (q.2.1.2.length : Int) 0).bind fun r1 =>
 some r1 := Eq.trans (inf_call_eq (H := H) 97 (q, no)) (by kernel_rfl)
theorem impl_Question_letters_L0_eq (q : DQuestion) (out : Bool × List Int) (t9 : Bool × List Int) (t10 : Int) (t11 : Int) : impl_Question_letters_L0 q out t9 t10 t11 =
 bif decide (t11 < t10) then
 bif decide (0 ≤ t11) then
 bif decide (t11 < (t9.2.length : Int)) then
(impl_Question_letterOf q (t9.2.getD (Int.toNat t11) 0)).bind fun r =>
 bif decide (out.2.length + [r].length ≤ lim) then
(impl_Question_letters_L0 q ((out.1 && false), (out.2 ++ [r])) t9 t10 (IntKind.i64.wrap (t11 + 1))).bind fun r => some r
else none
else none
else none
else 
 some (out.1, out.2) := Eq.trans (inf_loop_eq (H := H) 46 0 (loopCode Tryz.f46 0) (q, (out, (t9, (t10, t11)))) key_impl_Question_letters) (by kernel_rfl)
theorem impl_Question_letters_eq (q : DQuestion) (list : Bool × List Int) : impl_Question_letters q list =
(impl_Question_letters_L0 q (false, []) list (list.2.length : Int) 0).bind fun r =>
 some (r.1, r.2) := Eq.trans (inf_call_eq (H := H) 46 (q, list)) (by kernel_rfl)
theorem bits_Mul64_eq (x : Int) (y : Int) : bits_Mul64 x y =
 some (IntKind.u64.wrap ((IntKind.u64.wrap ((IntKind.u64.wrap ((bShr .u64 x 32) * (bShr .u64 y 32))) + (bShr .u64 (IntKind.u64.wrap ((IntKind.u64.wrap ((bShr .u64 x 32) * (bAnd .u64 y 4294967295))) + (bShr .u64 (IntKind.u64.wrap ((bAnd .u64 x 4294967295) * (bAnd .u64 y 4294967295))) 32))) 32))) + (bShr .u64 (IntKind.u64.wrap ((bAnd .u64 (IntKind.u64.wrap ((IntKind.u64.wrap ((bShr .u64 x 32) * (bAnd .u64 y 4294967295))) + (bShr .u64 (IntKind.u64.wrap ((bAnd .u64 x 4294967295) * (bAnd .u64 y 4294967295))) 32))) 4294967295) + (IntKind.u64.wrap ((bAnd .u64 x 4294967295) * (bShr .u64 y 32))))) 32)), IntKind.u64.wrap (x * y)) := Eq.trans (inf_call_eq (H := H) 230 (x, y)) (by kernel_rfl)
theorem bits_Mul_eq (x : Int) (y : Int) : bits_Mul x y =
(bits_Mul64 x y).bind fun r =>
 some (r.1, r.2) := Eq.trans (inf_call_eq (H := H) 172 (x, y)) (by kernel_rfl)
theorem slices_Repeat_bool_L0_eq (newslice : Bool × List Bool) (n : Int) : slices_Repeat_bool_L0 newslice n =
 bif decide (n < (newslice.2.length : Int)) then
 bif decide (0 ≤ n) then
 bif decide (n ≤ (newslice.2.length : Int)) then
 bif decide (0 ≤ n) then
 bif decide (n ≤ (newslice.2.length : Int)) then
(slices_Repeat_bool_L0 (newslice.1, (newslice.2.take (Int.toNat n) ++ (((newslice.2.take (Int.toNat n)).drop 0).take (newslice.2.length - (Int.toNat n)) ++ newslice.2.drop ((Int.toNat n) + (min ((newslice.2.take (Int.toNat n)).drop 0).length (newslice.2.length - (Int.toNat n))))))) (IntKind.i64.wrap (n + ((min ((newslice.2.take (Int.toNat n)).drop 0).length (newslice.2.length - (Int.toNat n)) : Nat) : Int)))).bind fun r => some r
else none
else none
else none
else none
else 
 some (newslice.1, newslice.2) := Eq.trans (inf_loop_eq (H := H) 221 0 (loopCode Tryz.f221 0) (newslice, n) key_slices_Repeat_bool) (by kernel_rfl)
theorem slices_Repeat_bool_eq (x : Bool × List Bool) (count : Int) : slices_Repeat_bool x count =
 bif decide (count < 0) then
 none
else 
(bits_Mul (IntKind.u64.wrap (x.2.length : Int)) (IntKind.u64.wrap count)).bind fun r =>
 bif decide (r.1 > 0) then
 none
else 
 bif decide (r.2 > 9223372036854775807) then
 none
else 
 bif decide (0 ≤ (IntKind.i64.wrap r.2)) then
 bif decide ((IntKind.i64.wrap r.2) ≤ lim) then
 bif decide ((IntKind.i64.wrap r.2) ≤ (IntKind.i64.wrap r.2)) then
 bif decide ((IntKind.i64.wrap r.2) ≤ lim) then
(slices_Repeat_bool_L0 (false, (x.2.take (List.replicate (Int.toNat (IntKind.i64.wrap r.2)) (false : Bool)).length ++ (List.replicate (Int.toNat (IntKind.i64.wrap r.2)) (false : Bool)).drop (min x.2.length (List.replicate (Int.toNat (IntKind.i64.wrap r.2)) (false : Bool)).length))) ((min x.2.length (List.replicate (Int.toNat (IntKind.i64.wrap r.2)) (false : Bool)).length : Nat) : Int)).bind fun r1 =>
 some (r1.1, r1.2)
else none
else none
else none
else none := Eq.trans (inf_call_eq (H := H) 221 (x, count)) (by kernel_rfl)
theorem impl_Lasso_nextPlace_eq (l : DLasso) (k_ : Int) : impl_Lasso_nextPlace l k_ =
 bif decide ((IntKind.i64.wrap (k_ + 1)) < (IntKind.i64.wrap ((l.1.2.length : Int) + (l.2.2.length : Int)))) then
 some (IntKind.i64.wrap (k_ + 1))
else 
 some (l.1.2.length : Int) := Eq.trans (inf_call_eq (H := H) 157 (l, k_)) (by kernel_rfl)
theorem impl_Lasso_holdsAlong_2_eq (k_ : Int) (a1 : Bool × List (Bool × List Bool)) : impl_Lasso_holdsAlong_2 k_ a1 =
 bif decide (1 < (a1.2.length : Int)) then
 bif decide (0 ≤ k_) then
 bif decide (k_ < (((a1.2.getD 1 (true, [])).2).length : Int)) then
 some (((a1.2.getD 1 (true, [])).2).getD (Int.toNat k_) false)
else none
else none
else none := Eq.trans (inf_call_eq (H := H) 152 (k_, a1)) (by kernel_rfl)
theorem impl_Lasso_holdsAlong_1_eq (k_ : Int) (a1 : Bool × List (Bool × List Bool)) : impl_Lasso_holdsAlong_1 k_ a1 =
 bif decide (0 < (a1.2.length : Int)) then
 bif decide (0 ≤ k_) then
 bif decide (k_ < (((a1.2.getD 0 (true, [])).2).length : Int)) then
 some (((a1.2.getD 0 (true, [])).2).getD (Int.toNat k_) false)
else none
else none
else none := Eq.trans (inf_call_eq (H := H) 151 (k_, a1)) (by kernel_rfl)
theorem impl_Lasso_holdsAlong_3_eq (k_ : Int) (next : Bool) (a2 : (Bool × List (Bool × List Bool)) × Unit) (a3 : (Bool × List (Bool × List Bool)) × Unit) : impl_Lasso_holdsAlong_3 k_ next a2 a3 =
(impl_Lasso_holdsAlong_2 k_ a2.1).bind fun r =>
 bif r then
 some true
else 
(impl_Lasso_holdsAlong_1 k_ a3.1).bind fun r1 =>
 bif r1 then
 some next
else 
 some false := Eq.trans (inf_call_eq (H := H) 154 (k_, (next, (a2, a3)))) (by kernel_rfl)
theorem impl_Lasso_fixed_by_Lasso_holdsAlong_3_L0_eq (l : DLasso) (rule : ((Bool × List (Bool × List Bool)) × Unit) × ((Bool × List (Bool × List Bool)) × Unit) × Unit) (t6 : Bool × List Bool) (out : Bool × List Bool) (t19 : Int) : impl_Lasso_fixed_by_Lasso_holdsAlong_3_L0 l rule t6 out t19 =
 bif decide (t19 < 2) then
(impl_Lasso_fixed_by_Lasso_holdsAlong_3_L2 l rule (out.1, out.2) ((out.2.length : Int) - 1)).bind fun r =>
(impl_Lasso_fixed_by_Lasso_holdsAlong_3_L0 l rule t6 (r.1, r.2) (IntKind.i64.wrap (t19 + 1))).bind fun r => some r
else 
 some (out.1, out.2) := Eq.trans (inf_loop_eq (H := H) 153 0 (loopCode Tryz.f153 0) (l, (rule, (t6, (out, t19)))) key_impl_Lasso_fixed_by_Lasso_holdsAlong_3) (by kernel_rfl)
theorem impl_Lasso_fixed_by_Lasso_holdsAlong_3_L2_eq (l : DLasso) (rule : ((Bool × List (Bool × List Bool)) × Unit) × ((Bool × List (Bool × List Bool)) × Unit) × Unit) (out : Bool × List Bool) (t23 : Int) : impl_Lasso_fixed_by_Lasso_holdsAlong_3_L2 l rule out t23 =
 bif decide (t23 < 0) then
 some (out.1, out.2)
else 
 bif decide (t23 < (out.2.length : Int)) then
(impl_Lasso_nextPlace l t23).bind fun r =>
 bif decide (0 ≤ r) then
 bif decide (r < (out.2.length : Int)) then
(impl_Lasso_holdsAlong_3 t23 (out.2.getD (Int.toNat r) false) rule.1 rule.2.1).bind fun r1 =>
 bif decide (0 ≤ t23) then
 bif decide (t23 < (out.2.length : Int)) then
(impl_Lasso_fixed_by_Lasso_holdsAlong_3_L2 l rule (out.1, (out.2.set (Int.toNat t23) r1)) (t23 - 1)).bind fun r => some r
else none
else none
else none
else none
else none := Eq.trans (inf_loop_eq (H := H) 153 2 (loopCode Tryz.f153 2) (l, (rule, (out, t23))) key_impl_Lasso_fixed_by_Lasso_holdsAlong_3) (by kernel_rfl)
theorem impl_Lasso_fixed_by_Lasso_holdsAlong_3_eq (l : DLasso) (from_ : Bool) (rule : ((Bool × List (Bool × List Bool)) × Unit) × ((Bool × List (Bool × List Bool)) × Unit) × Unit) : impl_Lasso_fixed_by_Lasso_holdsAlong_3 l from_ rule =
(slices_Repeat_bool (false, [from_]) (IntKind.i64.wrap ((l.1.2.length : Int) + (l.2.2.length : Int)))).bind fun r =>
(impl_Lasso_fixed_by_Lasso_holdsAlong_3_L0 l rule (true, []) (r.1, r.2) 0).bind fun r1 =>
 some (r1.1, r1.2) := Eq.trans (inf_call_eq (H := H) 153 (l, (from_, rule))) (by kernel_rfl)
theorem impl_Lasso_holdsAlong_4_eq (k_ : Int) (next : Bool) (a2 : (Bool × List (Bool × List Bool)) × Unit) (a3 : (Bool × List (Bool × List Bool)) × Unit) : impl_Lasso_holdsAlong_4 k_ next a2 a3 =
(impl_Lasso_holdsAlong_2 k_ a2.1).bind fun r =>
 bif r then
(impl_Lasso_holdsAlong_1 k_ a3.1).bind fun r1 =>
 bif r1 then
 some true
else 
 some next
else 
 some false := Eq.trans (inf_call_eq (H := H) 155 (k_, (next, (a2, a3)))) (by kernel_rfl)
theorem impl_Lasso_fixed_by_Lasso_holdsAlong_4_L0_eq (l : DLasso) (rule : ((Bool × List (Bool × List Bool)) × Unit) × ((Bool × List (Bool × List Bool)) × Unit) × Unit) (t6 : Bool × List Bool) (out : Bool × List Bool) (t19 : Int) : impl_Lasso_fixed_by_Lasso_holdsAlong_4_L0 l rule t6 out t19 =
 bif decide (t19 < 2) then
(impl_Lasso_fixed_by_Lasso_holdsAlong_4_L2 l rule (out.1, out.2) ((out.2.length : Int) - 1)).bind fun r =>
(impl_Lasso_fixed_by_Lasso_holdsAlong_4_L0 l rule t6 (r.1, r.2) (IntKind.i64.wrap (t19 + 1))).bind fun r => some r
else 
 some (out.1, out.2) := Eq.trans (inf_loop_eq (H := H) 10141 0 (loopCode Tryz.f153 0) (l, (rule, (t6, (out, t19)))) key_impl_Lasso_fixed_by_Lasso_holdsAlong_4) (by kernel_rfl)
theorem impl_Lasso_fixed_by_Lasso_holdsAlong_4_L2_eq (l : DLasso) (rule : ((Bool × List (Bool × List Bool)) × Unit) × ((Bool × List (Bool × List Bool)) × Unit) × Unit) (out : Bool × List Bool) (t23 : Int) : impl_Lasso_fixed_by_Lasso_holdsAlong_4_L2 l rule out t23 =
 bif decide (t23 < 0) then
 some (out.1, out.2)
else 
 bif decide (t23 < (out.2.length : Int)) then
(impl_Lasso_nextPlace l t23).bind fun r =>
 bif decide (0 ≤ r) then
 bif decide (r < (out.2.length : Int)) then
(impl_Lasso_holdsAlong_4 t23 (out.2.getD (Int.toNat r) false) rule.1 rule.2.1).bind fun r1 =>
 bif decide (0 ≤ t23) then
 bif decide (t23 < (out.2.length : Int)) then
(impl_Lasso_fixed_by_Lasso_holdsAlong_4_L2 l rule (out.1, (out.2.set (Int.toNat t23) r1)) (t23 - 1)).bind fun r => some r
else none
else none
else none
else none
else none := Eq.trans (inf_loop_eq (H := H) 10141 2 (loopCode Tryz.f153 2) (l, (rule, (out, t23))) key_impl_Lasso_fixed_by_Lasso_holdsAlong_4) (by kernel_rfl)
theorem impl_Lasso_fixed_by_Lasso_holdsAlong_4_eq (l : DLasso) (from_ : Bool) (rule : ((Bool × List (Bool × List Bool)) × Unit) × ((Bool × List (Bool × List Bool)) × Unit) × Unit) : impl_Lasso_fixed_by_Lasso_holdsAlong_4 l from_ rule =
(slices_Repeat_bool (false, [from_]) (IntKind.i64.wrap ((l.1.2.length : Int) + (l.2.2.length : Int)))).bind fun r =>
(impl_Lasso_fixed_by_Lasso_holdsAlong_4_L0 l rule (true, []) (r.1, r.2) 0).bind fun r1 =>
 some (r1.1, r1.2) := Eq.trans (inf_call_eq (H := H) 10141 (l, (from_, rule))) (by kernel_rfl)
theorem impl_Lasso_letterAt_eq (l : DLasso) (k_ : Int) : impl_Lasso_letterAt l k_ =
 bif decide (k_ < (l.1.2.length : Int)) then
 bif decide (0 ≤ k_) then
 bif decide (k_ < (l.1.2.length : Int)) then
 some (l.1.2.getD (Int.toNat k_) 0)
else none
else none
else 
 bif ((l.2.2.length : Int) == 0) then
 none
else 
 bif decide (0 ≤ (Int.tmod (IntKind.i64.wrap (k_ - (l.1.2.length : Int))) (l.2.2.length : Int))) then
 bif decide ((Int.tmod (IntKind.i64.wrap (k_ - (l.1.2.length : Int))) (l.2.2.length : Int)) < (l.2.2.length : Int)) then
 some (l.2.2.getD (Int.toNat (Int.tmod (IntKind.i64.wrap (k_ - (l.1.2.length : Int))) (l.2.2.length : Int))) 0)
else none
else none := Eq.trans (inf_call_eq (H := H) 156 (l, k_)) (by kernel_rfl)
theorem impl_Lasso_holdsAlong_L1_eq (l : DLasso) (x : DSaid) (a : (Bool × List (Bool × List Bool)) × Unit) (b : (Bool × List (Bool × List Bool)) × Unit) (out : Bool × List Bool) (t33 : Int) (t34 : Int) : impl_Lasso_holdsAlong_L1 l x a b out t33 t34 =
 bif decide (t34 < t33) then
 bif (x.1 == 1) then
(impl_Lasso_letterAt l t34).bind fun r =>
 bif decide (x.2 < 0) then
 none
else 
 bif decide (out.2.length + [((bAnd .i64 (bShr .i64 r x.2) 1) == 1)].length ≤ lim) then
(impl_Lasso_holdsAlong_L1 l x a b ((out.1 && false), (out.2 ++ [((bAnd .i64 (bShr .i64 r x.2) 1) == 1)])) t33 (IntKind.i64.wrap (t34 + 1))).bind fun r => some r
else none
else 
 bif (x.1 == 3) then
(impl_Lasso_holdsAlong_1 t34 a.1).bind fun r1 =>
 bif decide (out.2.length + [!r1].length ≤ lim) then
(impl_Lasso_holdsAlong_L1 l x a b ((out.1 && false), (out.2 ++ [!r1])) t33 (IntKind.i64.wrap (t34 + 1))).bind fun r => some r
else none
else 
 bif (x.1 == 4) then
(impl_Lasso_nextPlace l t34).bind fun r2 =>
(impl_Lasso_holdsAlong_1 r2 a.1).bind fun r3 =>
 bif decide (out.2.length + [r3].length ≤ lim) then
(impl_Lasso_holdsAlong_L1 l x a b ((out.1 && false), (out.2 ++ [r3])) t33 (IntKind.i64.wrap (t34 + 1))).bind fun r => some r
else none
else 
 bif (x.1 == 5) then
(impl_Lasso_holdsAlong_1 t34 a.1).bind fun r4 =>
 bif r4 then
(impl_Lasso_holdsAlong_2 t34 b.1).bind fun r5 =>
 bif decide (out.2.length + [r5].length ≤ lim) then
(impl_Lasso_holdsAlong_L1 l x a b ((out.1 && false), (out.2 ++ [r5])) t33 (IntKind.i64.wrap (t34 + 1))).bind fun r => some r
else none
else 
 bif decide (out.2.length + [false].length ≤ lim) then
(impl_Lasso_holdsAlong_L1 l x a b ((out.1 && false), (out.2 ++ [false])) t33 (IntKind.i64.wrap (t34 + 1))).bind fun r => some r
else none
else 
 bif (x.1 == 6) then
(impl_Lasso_holdsAlong_1 t34 a.1).bind fun r6 =>
 bif r6 then
 bif decide (out.2.length + [true].length ≤ lim) then
(impl_Lasso_holdsAlong_L1 l x a b ((out.1 && false), (out.2 ++ [true])) t33 (IntKind.i64.wrap (t34 + 1))).bind fun r => some r
else none
else 
(impl_Lasso_holdsAlong_2 t34 b.1).bind fun r7 =>
 bif decide (out.2.length + [r7].length ≤ lim) then
(impl_Lasso_holdsAlong_L1 l x a b ((out.1 && false), (out.2 ++ [r7])) t33 (IntKind.i64.wrap (t34 + 1))).bind fun r => some r
else none
else 
 bif decide (out.2.length + [(x.2 == 1)].length ≤ lim) then
(impl_Lasso_holdsAlong_L1 l x a b ((out.1 && false), (out.2 ++ [(x.2 == 1)])) t33 (IntKind.i64.wrap (t34 + 1))).bind fun r => some r
else none
else 
 some (out.1, out.2) := Eq.trans (inf_loop_eq (H := H) 99 1 (loopCode Tryz.f99 1) (l, (x, (a, (b, (out, (t33, t34)))))) key_impl_Lasso_holdsAlong) (by kernel_rfl)
theorem impl_Lasso_holdsAlong_eq (l : DLasso) (x : DSaid) (operands : Bool × List (Bool × List Bool)) : impl_Lasso_holdsAlong l x operands =
 bif (x.1 == 7) then
(impl_Lasso_fixed_by_Lasso_holdsAlong_3 l false ((operands, ()), ((operands, ()), ()))).bind fun r =>
 some (r.1, r.2)
else 
 bif (x.1 == 8) then
(impl_Lasso_fixed_by_Lasso_holdsAlong_4 l true ((operands, ()), ((operands, ()), ()))).bind fun r1 =>
 some (r1.1, r1.2)
else 
(impl_Lasso_holdsAlong_L1 l x (operands, ()) (operands, ()) (false, []) (IntKind.i64.wrap ((l.1.2.length : Int) + (l.2.2.length : Int))) 0).bind fun r2 =>
 some (r2.1, r2.2) := Eq.trans (inf_call_eq (H := H) 99 (l, (x, operands))) (by kernel_rfl)
theorem impl_Lasso_along_L0_eq (l : DLasso) (stack : Bool × List (Bool × List Bool)) (t10 : Bool × List DSaid) (t11 : Int) (t12 : Int) : impl_Lasso_along_L0 l stack t10 t11 t12 =
 bif decide (t12 < t11) then
 bif decide (0 ≤ t12) then
 bif decide (t12 < (t10.2.length : Int)) then
(impl_operandsOfSaid ((t10.2.getD (Int.toNat t12) (0, 0)).1)).bind fun r =>
 bif decide (0 ≤ (IntKind.i64.wrap ((stack.2.length : Int) - r))) then
 bif decide ((IntKind.i64.wrap ((stack.2.length : Int) - r)) ≤ (stack.2.length : Int)) then
 bif decide (0 ≤ (IntKind.i64.wrap ((stack.2.length : Int) - r))) then
 bif decide ((IntKind.i64.wrap ((stack.2.length : Int) - r)) ≤ (stack.2.length : Int)) then
 bif decide (((stack.2.take stack.2.length).drop (Int.toNat (IntKind.i64.wrap ((stack.2.length : Int) - r)))).length ≤ lim) then
(impl_Lasso_holdsAlong l (t10.2.getD (Int.toNat t12) (0, 0)) (stack.1, ((stack.2.take stack.2.length).drop (Int.toNat (IntKind.i64.wrap ((stack.2.length : Int) - r)))))).bind fun r1 =>
 bif decide (((stack.2.take (Int.toNat (IntKind.i64.wrap ((stack.2.length : Int) - r)))).drop 0).length + [(r1.1, r1.2)].length ≤ lim) then
(impl_Lasso_along_L0 l ((stack.1 && false), (((stack.2.take (Int.toNat (IntKind.i64.wrap ((stack.2.length : Int) - r)))).drop 0) ++ [(r1.1, r1.2)])) t10 t11 (IntKind.i64.wrap (t12 + 1))).bind fun r => some r
else none
else none
else none
else none
else none
else none
else none
else none
else 
 some (stack.1, stack.2) := Eq.trans (inf_loop_eq (H := H) 47 0 (loopCode Tryz.f47 0) (l, (stack, (t10, (t11, t12)))) key_impl_Lasso_along) (by kernel_rfl)
theorem impl_Lasso_along_eq (l : DLasso) (f : Bool × List DSaid) : impl_Lasso_along l f =
(impl_Lasso_along_L0 l (false, []) f (f.2.length : Int) 0).bind fun r =>
 bif decide (0 < (r.2.length : Int)) then
 some (r.2.getD 0 (true, []))
else none := Eq.trans (inf_call_eq (H := H) 47 (l, f)) (by kernel_rfl)
theorem impl_CheckRun_eq (q : DQuestion) (stem : Bool × List Int) (loop : Bool × List Int) : impl_CheckRun q stem loop =
(impl_Question_areStates q stem loop).bind fun r =>
 bif !r then
 some (0, false)
else 
(slices_Concat_int (false, [stem, loop])).bind fun r1 =>
 bif decide (0 < (r1.2.length : Int)) then
(impl_Program_stateOf q.1 (r1.2.getD 0 0)).bind fun r2 =>
(impl_Program_holds q.1 q.1.2.2.1 (r2.1, r2.2)).bind fun r3 =>
 bif !r3 then
 some (1, true)
else 
(impl_Question_isRun q stem loop).bind fun r4 =>
 bif !r4 then
 some (2, true)
else 
(impl_Question_letters q stem).bind fun r5 =>
(impl_Question_letters q loop).bind fun r6 =>
(impl_Lasso_along ((r5.1, r5.2), (r6.1, r6.2)) q.2.2).bind fun r7 =>
 bif decide (0 < (r7.2.length : Int)) then
 bif (r7.2.getD 0 false) then
 some (3, true)
else 
 some (0, true)
else none
else none := Eq.trans (inf_call_eq (H := H) 10 (q, (stem, loop))) (by kernel_rfl)
theorem laws_eqNode_eq (a : DNode) (b : DNode) : laws_eqNode a b =
 bif (a.1 != b.1) then
 some false
else 
 bif (a.2 != b.2) then
 some false
else 
 some true := Eq.trans (inf_call_eq (H := H) 136 (a, b)) (by kernel_rfl)
theorem laws_eqNodeS_L0_eq (a : Bool × List DNode) (b : Bool × List DNode) (i : Int) : laws_eqNodeS_L0 a b i =
 bif decide (i < (a.2.length : Int)) then
 bif decide (0 ≤ i) then
 bif decide (i < (a.2.length : Int)) then
 bif decide (0 ≤ i) then
 bif decide (i < (b.2.length : Int)) then
(laws_eqNode (a.2.getD (Int.toNat i) (0, 0)) (b.2.getD (Int.toNat i) (0, 0))).bind fun r =>
 bif !r then
 some (.inl false)
else 
(laws_eqNodeS_L0 a b (IntKind.i64.wrap (i + 1))).bind fun r => some r
else none
else none
else none
else none
else 
 some (.inr ()) := Eq.trans (inf_loop_eq (H := H) 74 0 (loopCode Tryz.f74 0) (a, (b, i)) key_laws_eqNodeS) (by kernel_rfl)
theorem laws_eqNodeS_eq (a : Bool × List DNode) (b : Bool × List DNode) : laws_eqNodeS a b =
 bif ((a.2.length : Int) != (b.2.length : Int)) then
 some false
else 
(laws_eqNodeS_L0 a b 0).bind fun r =>
 match r with
| .inl y =>
 some y
| .inr z =>
 some true := Eq.trans (inf_call_eq (H := H) 74 (a, b)) (by kernel_rfl)
theorem laws_eqChange_eq (a : DChange) (b : DChange) : laws_eqChange a b =
 bif (a.1 != b.1) then
 some false
else 
(laws_eqNodeS a.2 b.2).bind fun r =>
 bif !r then
 some false
else 
 some true := Eq.trans (inf_call_eq (H := H) 276 (a, b)) (by kernel_rfl)
theorem laws_eqChangeS_L0_eq (a : Bool × List DChange) (b : Bool × List DChange) (i : Int) : laws_eqChangeS_L0 a b i =
 bif decide (i < (a.2.length : Int)) then
 bif decide (0 ≤ i) then
 bif decide (i < (a.2.length : Int)) then
 bif decide (0 ≤ i) then
 bif decide (i < (b.2.length : Int)) then
(laws_eqChange (a.2.getD (Int.toNat i) (0, (true, []))) (b.2.getD (Int.toNat i) (0, (true, [])))).bind fun r =>
 bif !r then
 some (.inl false)
else 
(laws_eqChangeS_L0 a b (IntKind.i64.wrap (i + 1))).bind fun r => some r
else none
else none
else none
else none
else 
 some (.inr ()) := Eq.trans (inf_loop_eq (H := H) 223 0 (loopCode Tryz.f223 0) (a, (b, i)) key_laws_eqChangeS) (by kernel_rfl)
theorem laws_eqChangeS_eq (a : Bool × List DChange) (b : Bool × List DChange) : laws_eqChangeS a b =
 bif ((a.2.length : Int) != (b.2.length : Int)) then
 some false
else 
(laws_eqChangeS_L0 a b 0).bind fun r =>
 match r with
| .inl y =>
 some y
| .inr z =>
 some true := Eq.trans (inf_call_eq (H := H) 223 (a, b)) (by kernel_rfl)
theorem laws_eqCommand_eq (a : DCommand) (b : DCommand) : laws_eqCommand a b =
(laws_eqNodeS a.1 b.1).bind fun r =>
 bif !r then
 some false
else 
(laws_eqChangeS a.2 b.2).bind fun r1 =>
 bif !r1 then
 some false
else 
 some true := Eq.trans (inf_call_eq (H := H) 158 (a, b)) (by kernel_rfl)
theorem laws_eqCommandS_L0_eq (a : Bool × List DCommand) (b : Bool × List DCommand) (i : Int) : laws_eqCommandS_L0 a b i =
 bif decide (i < (a.2.length : Int)) then
 bif decide (0 ≤ i) then
 bif decide (i < (a.2.length : Int)) then
 bif decide (0 ≤ i) then
 bif decide (i < (b.2.length : Int)) then
(laws_eqCommand (a.2.getD (Int.toNat i) ((true, []), (true, []))) (b.2.getD (Int.toNat i) ((true, []), (true, [])))).bind fun r =>
 bif !r then
 some (.inl false)
else 
(laws_eqCommandS_L0 a b (IntKind.i64.wrap (i + 1))).bind fun r => some r
else none
else none
else none
else none
else 
 some (.inr ()) := Eq.trans (inf_loop_eq (H := H) 101 0 (loopCode Tryz.f101 0) (a, (b, i)) key_laws_eqCommandS) (by kernel_rfl)
theorem laws_eqCommandS_eq (a : Bool × List DCommand) (b : Bool × List DCommand) : laws_eqCommandS a b =
 bif ((a.2.length : Int) != (b.2.length : Int)) then
 some false
else 
(laws_eqCommandS_L0 a b 0).bind fun r =>
 match r with
| .inl y =>
 some y
| .inr z =>
 some true := Eq.trans (inf_call_eq (H := H) 101 (a, b)) (by kernel_rfl)
theorem laws_eqProgram_eq (a : DProgram) (b : DProgram) : laws_eqProgram a b =
 bif (a.1 != b.1) then
 some false
else 
 bif (a.2.1 != b.2.1) then
 some false
else 
(laws_eqNodeS a.2.2.1 b.2.2.1).bind fun r =>
 bif !r then
 some false
else 
(laws_eqCommandS a.2.2.2 b.2.2.2).bind fun r1 =>
 bif !r1 then
 some false
else 
 some true := Eq.trans (inf_call_eq (H := H) 48 (a, b)) (by kernel_rfl)
theorem laws_eqNodeSS_L0_eq (a : Bool × List (Bool × List DNode)) (b : Bool × List (Bool × List DNode)) (i : Int) : laws_eqNodeSS_L0 a b i =
 bif decide (i < (a.2.length : Int)) then
 bif decide (0 ≤ i) then
 bif decide (i < (a.2.length : Int)) then
 bif decide (0 ≤ i) then
 bif decide (i < (b.2.length : Int)) then
(laws_eqNodeS (a.2.getD (Int.toNat i) (true, [])) (b.2.getD (Int.toNat i) (true, []))).bind fun r =>
 bif !r then
 some (.inl false)
else 
(laws_eqNodeSS_L0 a b (IntKind.i64.wrap (i + 1))).bind fun r => some r
else none
else none
else none
else none
else 
 some (.inr ()) := Eq.trans (inf_loop_eq (H := H) 27 0 (loopCode Tryz.f27 0) (a, (b, i)) key_laws_eqNodeSS) (by kernel_rfl)
theorem laws_eqNodeSS_eq (a : Bool × List (Bool × List DNode)) (b : Bool × List (Bool × List DNode)) : laws_eqNodeSS a b =
 bif ((a.2.length : Int) != (b.2.length : Int)) then
 some false
else 
(laws_eqNodeSS_L0 a b 0).bind fun r =>
 match r with
| .inl y =>
 some y
| .inr z =>
 some true := Eq.trans (inf_call_eq (H := H) 27 (a, b)) (by kernel_rfl)
theorem laws_eqSaid_eq (a : DSaid) (b : DSaid) : laws_eqSaid a b =
 bif (a.1 != b.1) then
 some false
else 
 bif (a.2 != b.2) then
 some false
else 
 some true := Eq.trans (inf_call_eq (H := H) 102 (a, b)) (by kernel_rfl)
theorem laws_eqSaidS_L0_eq (a : Bool × List DSaid) (b : Bool × List DSaid) (i : Int) : laws_eqSaidS_L0 a b i =
 bif decide (i < (a.2.length : Int)) then
 bif decide (0 ≤ i) then
 bif decide (i < (a.2.length : Int)) then
 bif decide (0 ≤ i) then
 bif decide (i < (b.2.length : Int)) then
(laws_eqSaid (a.2.getD (Int.toNat i) (0, 0)) (b.2.getD (Int.toNat i) (0, 0))).bind fun r =>
 bif !r then
 some (.inl false)
else 
(laws_eqSaidS_L0 a b (IntKind.i64.wrap (i + 1))).bind fun r => some r
else none
else none
else none
else none
else 
 some (.inr ()) := Eq.trans (inf_loop_eq (H := H) 49 0 (loopCode Tryz.f49 0) (a, (b, i)) key_laws_eqSaidS) (by kernel_rfl)
theorem laws_eqSaidS_eq (a : Bool × List DSaid) (b : Bool × List DSaid) : laws_eqSaidS a b =
 bif ((a.2.length : Int) != (b.2.length : Int)) then
 some false
else 
(laws_eqSaidS_L0 a b 0).bind fun r =>
 match r with
| .inl y =>
 some y
| .inr z =>
 some true := Eq.trans (inf_call_eq (H := H) 49 (a, b)) (by kernel_rfl)
theorem laws_eqQuestion_eq (a : DQuestion) (b : DQuestion) : laws_eqQuestion a b =
(laws_eqProgram a.1 b.1).bind fun r =>
 bif !r then
 some false
else 
(laws_eqNodeSS a.2.1 b.2.1).bind fun r1 =>
 bif !r1 then
 some false
else 
(laws_eqSaidS a.2.2 b.2.2).bind fun r2 =>
 bif !r2 then
 some false
else 
 some true := Eq.trans (inf_call_eq (H := H) 11 (a, b)) (by kernel_rfl)
theorem laws_eqIntS_L0_eq (a : Bool × List Int) (b : Bool × List Int) (i : Int) : laws_eqIntS_L0 a b i =
 bif decide (i < (a.2.length : Int)) then
 bif decide (0 ≤ i) then
 bif decide (i < (a.2.length : Int)) then
 bif decide (0 ≤ i) then
 bif decide (i < (b.2.length : Int)) then
 bif ((a.2.getD (Int.toNat i) 0) != (b.2.getD (Int.toNat i) 0)) then
 some (.inl false)
else 
(laws_eqIntS_L0 a b (IntKind.i64.wrap (i + 1))).bind fun r => some r
else none
else none
else none
else none
else 
 some (.inr ()) := Eq.trans (inf_loop_eq (H := H) 12 0 (loopCode Tryz.f12 0) (a, (b, i)) key_laws_eqIntS) (by kernel_rfl)
theorem laws_eqIntS_eq (a : Bool × List Int) (b : Bool × List Int) : laws_eqIntS a b =
 bif ((a.2.length : Int) != (b.2.length : Int)) then
 some false
else 
(laws_eqIntS_L0 a b 0).bind fun r =>
 match r with
| .inl y =>
 some y
| .inr z =>
 some true := Eq.trans (inf_call_eq (H := H) 12 (a, b)) (by kernel_rfl)
theorem laws_FnExactCheckRun_eq (aQ : DQuestion) (aStem : Bool × List Int) (aLoop : Bool × List Int) : laws_FnExactCheckRun aQ aStem aLoop =
 bif decide ((aStem.2.length : Int) > 1048576) then
 some true
else 
 bif decide ((aLoop.2.length : Int) > 1048576) then
 some true
else 
(laws_szQuestion aQ 1048576).bind fun r =>
 bif decide (r < 0) then
 some true
else 
(laws_toQuestion aQ).bind fun r1 =>
(laws_toIntS aStem).bind fun r2 =>
(laws_toIntS aLoop).bind fun r3 =>
(spec_CheckRun ((r1.1, (r1.2.1, ((r1.2.2.1.1, r1.2.2.1.2), (r1.2.2.2.1.1, r1.2.2.2.1.2)))), ((r1.2.2.2.2.1.1, r1.2.2.2.2.1.2), (r1.2.2.2.2.2.1, r1.2.2.2.2.2.2))) (r2.1, r2.2) (r3.1, r3.2)).bind fun r4 =>
(laws_toQuestion aQ).bind fun r5 =>
(laws_toIntS aStem).bind fun r6 =>
(laws_toIntS aLoop).bind fun r7 =>
(impl_CheckRun ((r5.1, (r5.2.1, ((r5.2.2.1.1, r5.2.2.1.2), (r5.2.2.2.1.1, r5.2.2.2.1.2)))), ((r5.2.2.2.2.1.1, r5.2.2.2.2.1.2), (r5.2.2.2.2.2.1, r5.2.2.2.2.2.2))) (r6.1, r6.2) (r7.1, r7.2)).bind fun r8 =>
 bif (r8.1 != r4.1) then
 some false
else 
 bif !(r8.2 == r4.2) then
 some false
else 
(laws_toQuestion aQ).bind fun r9 =>
(laws_eqQuestion ((r5.1, (r5.2.1, ((r5.2.2.1.1, r5.2.2.1.2), (r5.2.2.2.1.1, r5.2.2.2.1.2)))), ((r5.2.2.2.2.1.1, r5.2.2.2.2.1.2), (r5.2.2.2.2.2.1, r5.2.2.2.2.2.2))) ((r9.1, (r9.2.1, ((r9.2.2.1.1, r9.2.2.1.2), (r9.2.2.2.1.1, r9.2.2.2.1.2)))), ((r9.2.2.2.2.1.1, r9.2.2.2.2.1.2), (r9.2.2.2.2.2.1, r9.2.2.2.2.2.2)))).bind fun r10 =>
 bif !r10 then
 some false
else 
(laws_toIntS aStem).bind fun r11 =>
(laws_eqIntS (r6.1, r6.2) (r11.1, r11.2)).bind fun r12 =>
 bif !r12 then
 some false
else 
(laws_toIntS aLoop).bind fun r13 =>
(laws_eqIntS (r7.1, r7.2) (r13.1, r13.2)).bind fun r14 =>
 bif !r14 then
 some false
else 
 some true := Eq.trans (inf_call_eq (H := H) 3 (aQ, (aStem, aLoop))) (by kernel_rfl)
theorem fit : Fit Tryz.prog H := fit_of (exts := extsL) (tys := tysL) (cells := cellsL) (keys := keysL) (mtys := mtysL) rfl rfl rfl rfl rfl (iters := itersL) rfl (by kernel_rfl) (by kernel_rfl) (by kernel_rfl) ⟨⟨Tryz.func59, by kernel_rfl, by kernel_rfl⟩, ⟨Tryz.func264, by kernel_rfl, by kernel_rfl⟩, ⟨Tryz.func206, by kernel_rfl, by kernel_rfl⟩, ⟨Tryz.func137, by kernel_rfl, by kernel_rfl⟩, ⟨Tryz.func77, by kernel_rfl, by kernel_rfl⟩, ⟨Tryz.func31, by kernel_rfl, by kernel_rfl⟩, ⟨Tryz.func22, by kernel_rfl, by kernel_rfl⟩, ⟨Tryz.func32, by kernel_rfl, by kernel_rfl⟩, ⟨Tryz.func6, by kernel_rfl, by kernel_rfl⟩, ⟨Tryz.func125, by kernel_rfl, by kernel_rfl⟩, ⟨Tryz.func69, by kernel_rfl, by kernel_rfl⟩, ⟨Tryz.func269, by kernel_rfl, by kernel_rfl⟩, ⟨Tryz.func212, by kernel_rfl, by kernel_rfl⟩, ⟨Tryz.func146, by kernel_rfl, by kernel_rfl⟩, ⟨Tryz.func87, by kernel_rfl, by kernel_rfl⟩, ⟨Tryz.func39, by kernel_rfl, by kernel_rfl⟩, ⟨Tryz.func24, by kernel_rfl, by kernel_rfl⟩, ⟨Tryz.func88, by kernel_rfl, by kernel_rfl⟩, ⟨Tryz.func40, by kernel_rfl, by kernel_rfl⟩, ⟨Tryz.func8, by kernel_rfl, by kernel_rfl⟩, ⟨Tryz.func9, by kernel_rfl, by kernel_rfl⟩, ⟨Tryz.func62, by kernel_rfl, by kernel_rfl⟩, ⟨Tryz.func247, by kernel_rfl, by kernel_rfl⟩, ⟨Tryz.func207, by kernel_rfl, by kernel_rfl⟩, ⟨Tryz.func208, by kernel_rfl, by kernel_rfl⟩, ⟨Tryz.func280, by kernel_rfl, by kernel_rfl⟩, ⟨Tryz.func248, by kernel_rfl, by kernel_rfl⟩, ⟨Tryz.func194, by kernel_rfl, by kernel_rfl⟩, ⟨Tryz.func119, by kernel_rfl, by kernel_rfl⟩, ⟨Tryz.func244, by kernel_rfl, by kernel_rfl⟩, ⟨Tryz.func191, by kernel_rfl, by kernel_rfl⟩, ⟨Tryz.func117, by kernel_rfl, by kernel_rfl⟩, ⟨Tryz.func245, by kernel_rfl, by kernel_rfl⟩, ⟨Tryz.func246, by kernel_rfl, by kernel_rfl⟩, ⟨Tryz.func192, by kernel_rfl, by kernel_rfl⟩, ⟨Tryz.func141, by kernel_rfl, by kernel_rfl⟩, ⟨Tryz.func193, by kernel_rfl, by kernel_rfl⟩, ⟨Tryz.func118, by kernel_rfl, by kernel_rfl⟩, ⟨Tryz.func60, by kernel_rfl, by kernel_rfl⟩, ⟨Tryz.func79, by kernel_rfl, by kernel_rfl⟩, ⟨Tryz.func138, by kernel_rfl, by kernel_rfl⟩, ⟨Tryz.func78, by kernel_rfl, by kernel_rfl⟩, ⟨Tryz.func33, by kernel_rfl, by kernel_rfl⟩, ⟨Tryz.func81, by kernel_rfl, by kernel_rfl⟩, ⟨Tryz.func210, by kernel_rfl, by kernel_rfl⟩, ⟨Tryz.func289, by kernel_rfl, by kernel_rfl⟩, ⟨Tryz.func265, by kernel_rfl, by kernel_rfl⟩, ⟨Tryz.func266, by kernel_rfl, by kernel_rfl⟩, ⟨Tryz.func267, by kernel_rfl, by kernel_rfl⟩, ⟨Tryz.func268, by kernel_rfl, by kernel_rfl⟩, ⟨Tryz.func209, by kernel_rfl, by kernel_rfl⟩, ⟨Tryz.func139, by kernel_rfl, by kernel_rfl⟩, ⟨Tryz.func80, by kernel_rfl, by kernel_rfl⟩, ⟨Tryz.func35, by kernel_rfl, by kernel_rfl⟩, ⟨Tryz.func34, by kernel_rfl, by kernel_rfl⟩, ⟨Tryz.func82, by kernel_rfl, by kernel_rfl⟩, ⟨Tryz.func140, by kernel_rfl, by kernel_rfl⟩, ⟨Tryz.func143, by kernel_rfl, by kernel_rfl⟩, ⟨Tryz.func142, by kernel_rfl, by kernel_rfl⟩, ⟨Tryz.func83, by kernel_rfl, by kernel_rfl⟩, ⟨Tryz.func36, by kernel_rfl, by kernel_rfl⟩, ⟨Tryz.func86, by kernel_rfl, by kernel_rfl⟩, ⟨Tryz.func38, by kernel_rfl, by kernel_rfl⟩, ⟨Tryz.func145, by kernel_rfl, by kernel_rfl⟩, ⟨Tryz.func211, by kernel_rfl, by kernel_rfl⟩, ⟨Tryz.func144, by kernel_rfl, by kernel_rfl⟩, ⟨Tryz.func84, by kernel_rfl, by kernel_rfl⟩, ⟨Tryz.func85, by kernel_rfl, by kernel_rfl⟩, ⟨Tryz.func37, by kernel_rfl, by kernel_rfl⟩, ⟨Tryz.func7, by kernel_rfl, by kernel_rfl⟩, ⟨Tryz.func249, by kernel_rfl, by kernel_rfl⟩, ⟨Tryz.func250, by kernel_rfl, by kernel_rfl⟩, ⟨Tryz.func282, by kernel_rfl, by kernel_rfl⟩, ⟨Tryz.func94, by kernel_rfl, by kernel_rfl⟩, ⟨Tryz.func290, by kernel_rfl, by kernel_rfl⟩, ⟨Tryz.func283, by kernel_rfl, by kernel_rfl⟩, ⟨Tryz.func284, by kernel_rfl, by kernel_rfl⟩, ⟨Tryz.func147, by kernel_rfl, by kernel_rfl⟩, ⟨Tryz.func90, by kernel_rfl, by kernel_rfl⟩, ⟨Tryz.func255, by kernel_rfl, by kernel_rfl⟩, ⟨Tryz.func256, by kernel_rfl, by kernel_rfl⟩, ⟨Tryz.func199, by kernel_rfl, by kernel_rfl⟩, ⟨Tryz.func130, by kernel_rfl, by kernel_rfl⟩, ⟨Tryz.func253, by kernel_rfl, by kernel_rfl⟩, ⟨Tryz.func252, by kernel_rfl, by kernel_rfl⟩, ⟨Tryz.func281, by kernel_rfl, by kernel_rfl⟩, ⟨Tryz.func251, by kernel_rfl, by kernel_rfl⟩, ⟨Tryz.func196, by kernel_rfl, by kernel_rfl⟩, ⟨Tryz.func126, by kernel_rfl, by kernel_rfl⟩, ⟨Tryz.func98, by kernel_rfl, by kernel_rfl⟩, ⟨Tryz.func254, by kernel_rfl, by kernel_rfl⟩, ⟨Tryz.func197, by kernel_rfl, by kernel_rfl⟩, ⟨Tryz.func187, by kernel_rfl, by kernel_rfl⟩, ⟨Tryz.func233, by kernel_rfl, by kernel_rfl⟩, ⟨Tryz.func219, by kernel_rfl, by kernel_rfl⟩, ⟨Tryz.func220, by kernel_rfl, by kernel_rfl⟩, ⟨Tryz.func189, by kernel_rfl, by kernel_rfl⟩, ⟨Tryz.func127, by kernel_rfl, by kernel_rfl⟩, ⟨Tryz.func129, by kernel_rfl, by kernel_rfl⟩, ⟨Tryz.func198, by kernel_rfl, by kernel_rfl⟩, ⟨Tryz.func128, by kernel_rfl, by kernel_rfl⟩, ⟨Tryz.func70, by kernel_rfl, by kernel_rfl⟩, ⟨Tryz.func89, by kernel_rfl, by kernel_rfl⟩, ⟨Tryz.func92, by kernel_rfl, by kernel_rfl⟩, ⟨Tryz.func42, by kernel_rfl, by kernel_rfl⟩, ⟨Tryz.func91, by kernel_rfl, by kernel_rfl⟩, ⟨Tryz.func147, by kernel_rfl, by kernel_rfl⟩, ⟨Tryz.func90, by kernel_rfl, by kernel_rfl⟩, ⟨Tryz.func41, by kernel_rfl, by kernel_rfl⟩, ⟨Tryz.func44, by kernel_rfl, by kernel_rfl⟩, ⟨Tryz.func270, by kernel_rfl, by kernel_rfl⟩, ⟨Tryz.func271, by kernel_rfl, by kernel_rfl⟩, ⟨Tryz.func213, by kernel_rfl, by kernel_rfl⟩, ⟨Tryz.func214, by kernel_rfl, by kernel_rfl⟩, ⟨Tryz.func215, by kernel_rfl, by kernel_rfl⟩, ⟨Tryz.func216, by kernel_rfl, by kernel_rfl⟩, ⟨Tryz.func148, by kernel_rfl, by kernel_rfl⟩, ⟨Tryz.func93, by kernel_rfl, by kernel_rfl⟩, ⟨Tryz.func43, by kernel_rfl, by kernel_rfl⟩, ⟨Tryz.func272, by kernel_rfl, by kernel_rfl⟩, ⟨Tryz.func218, by kernel_rfl, by kernel_rfl⟩, ⟨Tryz.func217, by kernel_rfl, by kernel_rfl⟩, ⟨Tryz.func149, by kernel_rfl, by kernel_rfl⟩, ⟨Tryz.func95, by kernel_rfl, by kernel_rfl⟩, ⟨Tryz.func150, by kernel_rfl, by kernel_rfl⟩, ⟨Tryz.func96, by kernel_rfl, by kernel_rfl⟩, ⟨Tryz.func45, by kernel_rfl, by kernel_rfl⟩, ⟨Tryz.func97, by kernel_rfl, by kernel_rfl⟩, ⟨Tryz.func46, by kernel_rfl, by kernel_rfl⟩, ⟨Tryz.func230, by kernel_rfl, by kernel_rfl⟩, ⟨Tryz.func172, by kernel_rfl, by kernel_rfl⟩, ⟨Tryz.func221, by kernel_rfl, by kernel_rfl⟩, ⟨Tryz.func157, by kernel_rfl, by kernel_rfl⟩, ⟨Tryz.func152, by kernel_rfl, by kernel_rfl⟩, ⟨Tryz.func151, by kernel_rfl, by kernel_rfl⟩, ⟨Tryz.func154, by kernel_rfl, by kernel_rfl⟩, ⟨Tryz.func153, by kernel_rfl, by kernel_rfl⟩, ⟨Tryz.func155, by kernel_rfl, by kernel_rfl⟩, ⟨Tryz.func153, by kernel_rfl, by kernel_rfl⟩, ⟨Tryz.func156, by kernel_rfl, by kernel_rfl⟩, ⟨Tryz.func99, by kernel_rfl, by kernel_rfl⟩, ⟨Tryz.func47, by kernel_rfl, by kernel_rfl⟩, ⟨Tryz.func10, by kernel_rfl, by kernel_rfl⟩, ⟨Tryz.func136, by kernel_rfl, by kernel_rfl⟩, ⟨Tryz.func74, by kernel_rfl, by kernel_rfl⟩, ⟨Tryz.func276, by kernel_rfl, by kernel_rfl⟩, ⟨Tryz.func223, by kernel_rfl, by kernel_rfl⟩, ⟨Tryz.func158, by kernel_rfl, by kernel_rfl⟩, ⟨Tryz.func101, by kernel_rfl, by kernel_rfl⟩, ⟨Tryz.func48, by kernel_rfl, by kernel_rfl⟩, ⟨Tryz.func27, by kernel_rfl, by kernel_rfl⟩, ⟨Tryz.func102, by kernel_rfl, by kernel_rfl⟩, ⟨Tryz.func49, by kernel_rfl, by kernel_rfl⟩, ⟨Tryz.func11, by kernel_rfl, by kernel_rfl⟩, ⟨Tryz.func12, by kernel_rfl, by kernel_rfl⟩, ⟨Tryz.func3, by kernel_rfl, by kernel_rfl⟩, trivial⟩ ⟨clone100, back222, trivial⟩ ⟨⟨.bool, by kernel_rfl, iter275⟩, trivial⟩ (by kernel_rfl)
theorem nats : NatOk Tryz.prog H := nat_of (keys := keysL) rfl ⟨.plain rfl, .plain rfl, .plain rfl, .plain rfl, .plain rfl, .plain rfl, .plain rfl, .plain rfl, .plain rfl, .plain rfl, .plain rfl, .plain rfl, .plain rfl, .plain rfl, .plain rfl, .plain rfl, .plain rfl, .plain rfl, .plain rfl, .plain rfl, .plain rfl, .plain rfl, .plain rfl, .plain rfl, .plain rfl, .plain rfl, .plain rfl, .plain rfl, .plain rfl, .plain rfl, .plain rfl, .plain rfl, .plain rfl, .plain rfl, .plain rfl, .plain rfl, .plain rfl, .plain rfl, .plain rfl, .plain rfl, .plain rfl, .plain rfl, .plain rfl, .plain rfl, .plain rfl, .plain rfl, .plain rfl, .plain rfl, .plain rfl, .plain rfl, .plain rfl, .plain rfl, .plain rfl, .plain rfl, .plain rfl, .plain rfl, .plain rfl, .plain rfl, .plain rfl, .plain rfl, .plain rfl, .plain rfl, .plain rfl, .plain rfl, .plain rfl, .plain rfl, .plain rfl, .plain rfl, .plain rfl, .plain rfl, .plain rfl, .plain rfl, .plain rfl, .plain rfl, .plain rfl, .plain rfl, .plain rfl, .plain rfl, .plain rfl, .plain rfl, .plain rfl, .plain rfl, .plain rfl, .plain rfl, .plain rfl, .plain rfl, .plain rfl, .plain rfl, .plain rfl, .plain rfl, .plain rfl, .plain rfl, .plain rfl, .plain rfl, .sort Tryz.sortOk, .compact (by decide) Tryz.compactOk, .plain rfl, .plain rfl, .plain rfl, .plain rfl, .plain rfl, .plain rfl, .plain rfl, .plain rfl, .plain rfl, .plain rfl, .plain rfl, .plain rfl, .plain rfl, .plain rfl, .plain rfl, .plain rfl, .plain rfl, .plain rfl, .plain rfl, .plain rfl, .plain rfl, .plain rfl, .plain rfl, .plain rfl, .plain rfl, .plain rfl, .plain rfl, .plain rfl, .plain rfl, .plain rfl, .plain rfl, .plain rfl, .plain rfl, .plain rfl, .plain rfl, .plain rfl, .plain rfl, .plain rfl, .plain rfl, .plain rfl, .plain rfl, .plain rfl, .plain rfl, .plain rfl, .plain rfl, .plain rfl, .plain rfl, .plain rfl, .plain rfl, .plain rfl, .plain rfl, .plain rfl, .plain rfl, .plain rfl, .plain rfl, .plain rfl, .plain rfl, .plain rfl, .plain rfl, .plain rfl, trivial⟩
end Go.Proofs.YtedfhboklcfanaaGreat.R
