/- Kinds, signatures and loops of the functions that the laws reach, and what each computes. -/
import Derived.Test.YtibhhmehjbdjhaaGreatRfD
import Derived.Test.YtibhhmehjbdjhaaGreatProg
import Derived.KernelRfl
set_option linter.unusedVariables false
namespace Go.Proofs.YtibhhmehjbdjhaaGreat.R
open Go.Rf Go.Proofs
def tyNode : Ty := (.pair (.int .i64) (.int .u64))
abbrev DNode := Int × Int
def tySight : Ty := (.one (.sl (.int .i64)))
abbrev DSight := Bool × List Int
def tyboundsError : Ty := (.pair (.int .i64) (.pair (.int .i64) (.pair .bool (.int .u8))))
abbrev DboundsError := Int × Int × Bool × Int
def tyGraph : Ty := (.one (.sl (.sl (.int .i64))))
abbrev DGraph := Bool × List (Bool × List Int)
def tyChange : Ty := (.pair (.int .i64) (.sl tyNode))
abbrev DChange := Int × Bool × List DNode
def tyCommand : Ty := (.pair (.sl tyNode) (.sl tyChange))
abbrev DCommand := (Bool × List DNode) × Bool × List DChange
def tyProgram : Ty := (.pair (.int .i64) (.pair (.int .i64) (.pair (.sl tyNode) (.sl tyCommand))))
abbrev DProgram := Int × Int × (Bool × List DNode) × Bool × List DCommand
noncomputable def h_laws_szNodeS : FnH := ⟨30, Tryz.f30, (.tup (.v (.sl tyNode)) (.tup (.v (.int .i64)) .unit)), (.tup (.v (.int .i64)) .unit), [], [], [], [], []⟩
noncomputable def h_laws_szChange : FnH := ⟨110, Tryz.f110, (.tup (.v tyChange) (.tup (.v (.int .i64)) .unit)), (.tup (.v (.int .i64)) .unit), [], [], [], [], []⟩
noncomputable def h_laws_szChangeS : FnH := ⟨91, Tryz.f91, (.tup (.v (.sl tyChange)) (.tup (.v (.int .i64)) .unit)), (.tup (.v (.int .i64)) .unit), [], [], [(0, ⟨[(0, (.v (.sl tyChange))), (1, (.v (.int .i64))), (5, (.v (.int .i64)))], [(.ret, [(4, (.v (.int .i64)))]), (.exit 0, [(1, (.v (.int .i64)))])], []⟩)], [], []⟩
noncomputable def h_laws_szCommand : FnH := ⟨64, Tryz.f64, (.tup (.v tyCommand) (.tup (.v (.int .i64)) .unit)), (.tup (.v (.int .i64)) .unit), [], [], [], [], []⟩
noncomputable def h_laws_szCommandS : FnH := ⟨31, Tryz.f31, (.tup (.v (.sl tyCommand)) (.tup (.v (.int .i64)) .unit)), (.tup (.v (.int .i64)) .unit), [], [], [(0, ⟨[(0, (.v (.sl tyCommand))), (1, (.v (.int .i64))), (5, (.v (.int .i64)))], [(.ret, [(4, (.v (.int .i64)))]), (.exit 0, [(1, (.v (.int .i64)))])], []⟩)], [], []⟩
noncomputable def h_laws_szProgram : FnH := ⟨7, Tryz.f7, (.tup (.v tyProgram) (.tup (.v (.int .i64)) .unit)), (.tup (.v (.int .i64)) .unit), [], [], [], [], []⟩
noncomputable def h_laws_szIntS : FnH := ⟨32, Tryz.f32, (.tup (.v (.sl (.int .i64))) (.tup (.v (.int .i64)) .unit)), (.tup (.v (.int .i64)) .unit), [], [], [], [], []⟩
noncomputable def h_laws_szSight : FnH := ⟨8, Tryz.f8, (.tup (.v tySight) (.tup (.v (.int .i64)) .unit)), (.tup (.v (.int .i64)) .unit), [], [], [], [], []⟩
noncomputable def h_laws_toNode : FnH := ⟨68, Tryz.f68, (.tup (.v tyNode) .unit), (.tup (.v tyNode) .unit), [], [], [], [], []⟩
noncomputable def h_laws_toNodeS : FnH := ⟨36, Tryz.f36, (.tup (.v (.sl tyNode)) .unit), (.tup (.own 206850 tyNode true) .unit), [], [], [(0, ⟨[(0, (.v (.sl tyNode))), (3, (.own 206849 tyNode true)), (4, (.v (.int .i64)))], [(.exit 0, [(1206849, (.own 206849 tyNode true))])], [3]⟩)], [], []⟩
noncomputable def h_laws_toChange : FnH := ⟨115, Tryz.f115, (.tup (.v tyChange) .unit), (.tup (.pair (.v (.int .i64)) (.own 206851 tyNode true)) .unit), [], [], [], [], []⟩
noncomputable def h_laws_toChangeS : FnH := ⟨93, Tryz.f93, (.tup (.v (.sl tyChange)) .unit), (.tup (.own 206853 tyChange true) .unit), [], [], [(0, ⟨[(0, (.v (.sl tyChange))), (3, (.own 206852 tyChange true)), (4, (.v (.int .i64)))], [(.exit 0, [(1206852, (.own 206852 tyChange true))])], [3]⟩)], [], []⟩
noncomputable def h_laws_toCommand : FnH := ⟨69, Tryz.f69, (.tup (.v tyCommand) .unit), (.tup (.pair (.own 206854 tyNode true) (.own 206855 tyChange true)) .unit), [], [], [], [], []⟩
noncomputable def h_laws_toCommandS : FnH := ⟨37, Tryz.f37, (.tup (.v (.sl tyCommand)) .unit), (.tup (.own 206857 tyCommand true) .unit), [], [], [(0, ⟨[(0, (.v (.sl tyCommand))), (3, (.own 206856 tyCommand true)), (4, (.v (.int .i64)))], [(.exit 0, [(1206856, (.own 206856 tyCommand true))])], [3]⟩)], [], []⟩
noncomputable def h_laws_toProgram : FnH := ⟨10, Tryz.f10, (.tup (.v tyProgram) .unit), (.tup (.pair (.v (.int .i64)) (.pair (.v (.int .i64)) (.pair (.own 206858 tyNode true) (.own 206859 tyCommand true)))) .unit), [], [], [], [], []⟩
noncomputable def h_laws_toIntS : FnH := ⟨21, Tryz.f21, (.tup (.v (.sl (.int .i64))) .unit), (.tup (.own 206861 (.int .i64) true) .unit), [], [], [(0, ⟨[(0, (.v (.sl (.int .i64)))), (3, (.own 206860 (.int .i64) true)), (4, (.v (.int .i64)))], [(.exit 0, [(1206860, (.own 206860 (.int .i64) true))])], [3]⟩)], [], []⟩
noncomputable def h_laws_toSight : FnH := ⟨11, Tryz.f11, (.tup (.v tySight) .unit), (.tup (.one (.own 206862 (.int .i64) true)) .unit), [], [], [], [], []⟩
noncomputable def h_spec_l1In : FnH := ⟨46, Tryz.f46, (.tup (.v (.int .i64)) (.tup (.v (.int .i64)) (.tup (.v (.int .i64)) .unit))), (.tup (.v .bool) .unit), [], [], [], [], []⟩
noncomputable def h_spec_l1Wide : FnH := ⟨141, Tryz.f141, (.tup (.v (.int .i64)) .unit), (.tup (.v .bool) .unit), [], [], [], [], []⟩
noncomputable def h_spec_l2Need : FnH := ⟨111, Tryz.f111, (.tup (.v (.int .i64)) .unit), (.tup (.v (.int .i64)) (.tup (.v (.int .i64)) (.tup (.v (.int .i64)) .unit))), [], [], [], [], []⟩
noncomputable def h_spec_l1Cut : FnH := ⟨112, Tryz.f112, (.tup (.v (.int .i64)) (.tup (.v (.int .u64)) .unit)), (.tup (.v (.int .u64)) .unit), [], [], [(0, ⟨[(0, (.v (.int .i64))), (1, (.v (.int .u64))), (5, (.v (.int .u64))), (6, (.v (.int .i64)))], [(.exit 0, [(5, (.v (.int .u64)))])], []⟩)], [], []⟩
noncomputable def h_spec_GoodWord : FnH := ⟨154, Tryz.f154, (.tup (.v (.int .i64)) (.tup (.v (.int .u64)) .unit)), (.tup (.v .bool) .unit), [], [], [], [], []⟩
noncomputable def h_spec_l2N : FnH := ⟨142, Tryz.f142, (.tup (.v (.int .i64)) (.tup (.v (.int .i64)) (.tup (.v tyNode) .unit))), (.tup (.v .bool) .unit), [], [], [], [], []⟩
noncomputable def h_spec_l2Kind : FnH := ⟨118, Tryz.f118, (.tup (.v (.int .i64)) (.tup (.v (.int .i64)) (.tup (.v (.sl tyNode)) .unit))), (.tup (.v (.int .i64)) .unit), [], [], [(0, ⟨[(0, (.v (.int .i64))), (1, (.v (.int .i64))), (7, (.own 206863 (.int .i64) true)), (27, (.v (.sl tyNode))), (28, (.v (.int .i64))), (29, (.v (.int .i64)))], [(.ret, [(6, (.v (.int .i64)))]), (.exit 0, [(7, (.own 206866 (.int .i64) true))])], []⟩), (2, ⟨[(0, (.v (.int .i64))), (1, (.v (.int .i64))), (7, (.own 206864 (.int .i64) true)), (10, (.v (.int .i64))), (11, (.v (.int .i64))), (12, (.v (.int .i64))), (27, (.v (.sl tyNode))), (28, (.v (.int .i64))), (29, (.v (.int .i64)))], [(.ret, [(6, (.v (.int .i64)))]), (.exit 2, [(7, (.own 206865 (.int .i64) true))])], [0, 1, 12, 27, 28, 29]⟩)], [], []⟩
noncomputable def h_spec_l7Asks : FnH := ⟨98, Tryz.f98, (.tup (.v tyProgram) (.tup (.v (.sl tyNode)) .unit)), (.tup (.v .bool) .unit), [], [], [], [], []⟩
noncomputable def h_spec_l7Command : FnH := ⟨99, Tryz.f99, (.tup (.v tyProgram) (.tup (.v tyCommand) .unit)), (.tup (.v .bool) .unit), [], [], [(0, ⟨[(2, (.sp tyProgram)), (3, (.sp tyCommand)), (21, (.v (.sl tyChange))), (22, (.v (.int .i64))), (23, (.v (.int .i64)))], [(.ret, [(4, (.v .bool))]), (.exit 0, [])], []⟩)], [], []⟩
noncomputable def h_spec_GoodProgram : FnH := ⟨78, Tryz.f78, (.tup (.v tyProgram) .unit), (.tup (.v .bool) .unit), [], [], [(0, ⟨[(1, (.sp tyProgram)), (18, (.v (.sl tyCommand))), (19, (.v (.int .i64))), (20, (.v (.int .i64)))], [(.ret, [(2, (.v .bool))]), (.exit 0, [])], []⟩)], [], []⟩
noncomputable def h_spec_l7Small : FnH := ⟨45, Tryz.f45, (.tup (.v tyProgram) .unit), (.tup (.v .bool) .unit), [], [], [], [], []⟩
noncomputable def h_spec_l7Many : FnH := ⟨48, Tryz.f48, (.tup (.v tyProgram) .unit), (.tup (.v (.int .i64)) .unit), [], [], [], [], []⟩
noncomputable def h_spec_GoodSight : FnH := ⟨33, Tryz.f33, (.tup (.v tyProgram) (.tup (.v tySight) .unit)), (.tup (.v .bool) .unit), [], [], [(0, ⟨[(5, (.v (.int .i64))), (20, (.v (.sl (.int .i64)))), (21, (.v (.int .i64))), (22, (.v (.int .i64)))], [(.ret, [(4, (.v .bool))]), (.exit 0, [])], []⟩)], [], []⟩
noncomputable def h_spec_l7Of : FnH := ⟨67, Tryz.f67, (.tup (.v tyProgram) (.tup (.v (.int .i64)) .unit)), (.tup (.own 206870 (.int .u64) true) .unit), [], [], [(0, ⟨[(1, (.v (.int .i64))), (2, (.sp tyProgram)), (5, (.own 206868 (.int .u64) true)), (6, (.v (.int .i64)))], [(.exit 0, [(5, (.own 206869 (.int .u64) true))])], []⟩)], [], []⟩
noncomputable def h_spec_l2From : FnH := ⟨114, Tryz.f114, (.tup (.v (.sl tyNode)) (.tup (.v (.int .i64)) .unit)), (.tup (.v (.int .i64)) .unit), [], [], [(0, ⟨[(0, (.v (.sl tyNode))), (5, (.v (.int .i64))), (8, (.v (.int .i64)))], [(.exit 0, [(8, (.v (.int .i64)))])], []⟩)], [], []⟩
noncomputable def h_spec_l1Both : FnH := ⟨151, Tryz.f151, (.tup (.v (.int .i64)) (.tup (.v (.int .u64)) (.tup (.v (.int .u64)) .unit))), (.tup (.v .bool) .unit), [], [], [], [], []⟩
noncomputable def h_spec_DivWord : FnH := ⟨133, Tryz.f133, (.tup (.v (.int .i64)) (.tup (.v (.int .u64)) (.tup (.v (.int .u64)) .unit))), (.tup (.v (.int .u64)) (.tup (.v (.int .u64)) (.tup (.v .bool) .unit))), [], [], [], [], []⟩
noncomputable def h_spec_l1Shift : FnH := ⟨134, Tryz.f134, (.tup (.v (.int .i64)) (.tup (.v (.int .u64)) (.tup (.v (.int .u64)) (.tup (.v .bool) .unit)))), (.tup (.v (.int .u64)) .unit), [], [], [(0, ⟨[(0, (.v (.int .i64))), (1, (.v (.int .u64))), (2, (.v (.int .u64))), (3, (.v .bool))], [(.exit 0, [(1, (.v (.int .u64)))])], []⟩)], [], []⟩
noncomputable def h_spec_l2Bool : FnH := ⟨135, Tryz.f135, (.tup (.v .bool) .unit), (.tup (.v (.int .u64)) .unit), [], [], [], [], []⟩
noncomputable def h_spec_l1Signed : FnH := ⟨136, Tryz.f136, (.tup (.v (.int .i64)) (.tup (.v (.int .u64)) .unit)), (.tup (.v (.int .i64)) .unit), [], [], [], [], []⟩
noncomputable def h_spec_l2Do : FnH := ⟨113, Tryz.f113, (.tup (.v (.int .i64)) (.tup (.v (.int .i64)) (.tup (.v (.int .u64)) (.tup (.v (.int .u64)) .unit)))), (.tup (.v (.int .u64)) .unit), [], [], [], [], []⟩
noncomputable def h_spec_l2Value : FnH := ⟨92, Tryz.f92, (.tup (.v (.int .i64)) (.tup (.v (.sl tyNode)) (.tup (.v (.int .i64)) (.tup (.v (.sl (.int .u64))) .unit)))), (.tup (.v (.int .u64)) .unit), [], [], [], [], []⟩
noncomputable def h_spec_l7Holds : FnH := ⟨66, Tryz.f66, (.tup (.v tyProgram) (.tup (.v (.sl tyNode)) (.tup (.v (.sl (.int .u64))) .unit))), (.tup (.v .bool) .unit), [], [], [], [], []⟩
noncomputable def h_spec_l8Those : FnH := ⟨35, Tryz.f35, (.tup (.v tyProgram) (.tup (.v (.sl tyNode)) .unit)), (.tup (.own 206872 (.int .i64) true) .unit), [], [], [(0, ⟨[(1, (.v (.sl tyNode))), (2, (.sp tyProgram)), (5, (.own 206867 (.int .i64) true)), (6, (.v (.int .i64)))], [(.exit 0, [(5, (.own 206871 (.int .i64) true))])], []⟩)], [], []⟩
noncomputable def h_spec_l1Put : FnH := ⟨65, Tryz.f65, (.tup (.v (.sl (.int .i64))) (.tup (.v (.int .i64)) .unit)), (.tup (.v (.sl (.int .i64))) .unit), [], [], [(0, ⟨[(0, (.v (.sl (.int .i64)))), (1, (.v (.int .i64))), (5, (.v (.int .i64)))], [(.exit 0, [(5, (.v (.int .i64)))])], [0, 1]⟩)], [], []⟩
noncomputable def h_spec_l17Classes : FnH := ⟨34, Tryz.f34, (.tup (.v tySight) (.tup (.v (.sl (.int .i64))) .unit)), (.tup (.v (.sl (.int .i64))) .unit), [], [], [(0, ⟨[(2, (.sp tySight)), (5, (.v (.sl (.int .i64)))), (8, (.v (.sl (.int .i64)))), (9, (.v (.int .i64))), (10, (.v (.int .i64)))], [(.exit 0, [(5, (.v (.sl (.int .i64))))])], []⟩)], [], []⟩
noncomputable def h_spec_ClassStarts : FnH := ⟨9, Tryz.f9, (.tup (.v tyProgram) (.tup (.v tySight) .unit)), (.tup (.v (.sl (.int .i64))) (.tup (.v .bool) .unit)), [], [], [], [], []⟩
noncomputable def h_impl_isWide : FnH := ⟨100, Tryz.f100, (.tup (.v (.int .i64)) .unit), (.tup (.v .bool) .unit), [], [], [], [], []⟩
noncomputable def h_impl_isVars : FnH := ⟨101, Tryz.f101, (.tup (.v (.int .i64)) .unit), (.tup (.v .bool) .unit), [], [], [], [], []⟩
noncomputable def h_impl_operandsOf : FnH := ⟨155, Tryz.f155, (.tup (.v (.int .i64)) .unit), (.tup (.v (.int .i64)) (.tup (.v (.int .i64)) (.tup (.v (.int .i64)) .unit))), [], [], [], [], []⟩
noncomputable def h_impl_mask : FnH := ⟨96, Tryz.f96, (.tup (.v (.int .i64)) .unit), (.tup (.v (.int .u64)) .unit), [], [], [], [], []⟩
noncomputable def h_impl_GoodWord : FnH := ⟨160, Tryz.f160, (.tup (.v (.int .i64)) (.tup (.v (.int .u64)) .unit)), (.tup (.v .bool) .unit), [], [], [], [], []⟩
noncomputable def h_impl_isLeafRight : FnH := ⟨156, Tryz.f156, (.tup (.v (.int .i64)) (.tup (.v (.int .i64)) (.tup (.v tyNode) .unit))), (.tup (.v .bool) .unit), [], [], [], [], []⟩
noncomputable def h_impl_GoodTerm_1 : FnH := ⟨158, Tryz.f158, (.tup (.v (.int .i64)) (.tup (.sp (.int .i64)) .unit)), (.tup (.v .bool) .unit), [], [], [], [], []⟩
noncomputable def h_slices_IndexFunc_int_by_GoodTerm_1 : FnH := ⟨162, Tryz.f162, (.tup (.v (.sl (.int .i64))) (.tup (.v (.fn 158 (.pair (.int .i64) .nil))) .unit)), (.tup (.v (.int .i64)) .unit), [], [], [(0, ⟨[(0, (.v (.sl (.int .i64)))), (1, (.v (.fn 158 (.pair (.int .i64) .nil)))), (7, (.v (.int .i64))), (8, (.v (.int .i64)))], [(.ret, [(4, (.v (.int .i64)))]), (.exit 0, [])], []⟩)], [], []⟩
noncomputable def h_slices_ContainsFunc_int_by_GoodTerm_1 : FnH := ⟨157, Tryz.f157, (.tup (.v (.sl (.int .i64))) (.tup (.v (.fn 158 (.pair (.int .i64) .nil))) .unit)), (.tup (.v .bool) .unit), [], [], [], [], []⟩
noncomputable def h_impl_GoodTerm : FnH := ⟨143, Tryz.f143, (.tup (.v (.int .i64)) (.tup (.v (.int .i64)) (.tup (.v (.sl tyNode)) .unit))), (.tup (.v .bool) .unit), [], [], [(0, ⟨[(0, (.v (.int .i64))), (1, (.v (.int .i64))), (7, (.own 206875 (.int .i64) true)), (33, (.v (.sl tyNode))), (34, (.v (.int .i64))), (35, (.v (.int .i64)))], [(.ret, [(6, (.v .bool))]), (.exit 0, [(7, (.own 206876 (.int .i64) true))])], []⟩)], [], []⟩
noncomputable def h_impl_kindOf : FnH := ⟨144, Tryz.f144, (.tup (.v (.sl tyNode)) .unit), (.tup (.v (.int .i64)) .unit), [], [], [], [], []⟩
noncomputable def h_impl_isTermOf : FnH := ⟨119, Tryz.f119, (.tup (.v (.int .i64)) (.tup (.v (.int .i64)) (.tup (.v (.sl tyNode)) (.tup (.v (.int .i64)) .unit)))), (.tup (.v .bool) .unit), [], [], [], [], []⟩
noncomputable def h_impl_Program_isCondition : FnH := ⟨102, Tryz.f102, (.tup (.v tyProgram) (.tup (.v (.sl tyNode)) .unit)), (.tup (.v .bool) .unit), [], [], [], [], []⟩
noncomputable def h_impl_Program_isCommand : FnH := ⟨105, Tryz.f105, (.tup (.v tyProgram) (.tup (.v tyCommand) .unit)), (.tup (.v .bool) .unit), [], [], [(0, ⟨[(2, (.sp tyProgram)), (3, (.sp tyCommand)), (13, (.v (.sl tyChange))), (14, (.v (.int .i64))), (15, (.v (.int .i64)))], [(.ret, [(4, (.v .bool))]), (.exit 0, [])], []⟩)], [], []⟩
noncomputable def h_impl_GoodProgram_1 : FnH := ⟨104, Tryz.f104, (.tup (.v tyCommand) (.tup (.sp tyProgram) .unit)), (.tup (.v .bool) .unit), [], [], [], [], []⟩
noncomputable def h_slices_IndexFunc_Command_by_GoodProgram_1 : FnH := ⟨120, Tryz.f120, (.tup (.v (.sl tyCommand)) (.tup (.v (.fn 104 (.pair tyProgram .nil))) .unit)), (.tup (.v (.int .i64)) .unit), [], [], [(0, ⟨[(0, (.v (.sl tyCommand))), (1, (.v (.fn 104 (.pair tyProgram .nil)))), (7, (.v (.int .i64))), (8, (.v (.int .i64)))], [(.ret, [(4, (.v (.int .i64)))]), (.exit 0, [])], []⟩)], [], []⟩
noncomputable def h_slices_ContainsFunc_Command_by_GoodProgram_1 : FnH := ⟨103, Tryz.f103, (.tup (.v (.sl tyCommand)) (.tup (.v (.fn 104 (.pair tyProgram .nil))) .unit)), (.tup (.v .bool) .unit), [], [], [], [], []⟩
noncomputable def h_impl_GoodProgram : FnH := ⟨81, Tryz.f81, (.tup (.v tyProgram) .unit), (.tup (.v .bool) .unit), [], [], [], [], []⟩
noncomputable def h_impl_isSmall : FnH := ⟨50, Tryz.f50, (.tup (.v tyProgram) .unit), (.tup (.v .bool) .unit), [], [], [], [], []⟩
noncomputable def h_impl_Program_states : FnH := ⟨53, Tryz.f53, (.tup (.v tyProgram) .unit), (.tup (.v (.int .i64)) .unit), [], [], [], [], []⟩
noncomputable def h_impl_isSight : FnH := ⟨70, Tryz.f70, (.tup (.v tySight) (.tup (.v (.int .i64)) .unit)), (.tup (.v .bool) .unit), [], [], [(0, ⟨[(1, (.v (.int .i64))), (2, (.sp tySight)), (5, (.v (.int .i64))), (9, (.v (.sl (.int .i64)))), (10, (.v (.int .i64))), (11, (.v (.int .i64)))], [(.ret, [(4, (.v .bool))]), (.exit 0, [])], [1, 2]⟩)], [], []⟩
noncomputable def h_impl_GoodSight : FnH := ⟨38, Tryz.f38, (.tup (.v tyProgram) (.tup (.v tySight) .unit)), (.tup (.v .bool) .unit), [], [], [], [], []⟩
noncomputable def h_impl_Program_stateOf : FnH := ⟨74, Tryz.f74, (.tup (.v tyProgram) (.tup (.v (.int .i64)) .unit)), (.tup (.own 206880 (.int .u64) true) .unit), [], [], [(0, ⟨[(1, (.v (.int .i64))), (2, (.sp tyProgram)), (5, (.own 206878 (.int .u64) true)), (9, (.v (.int .i64))), (10, (.v (.int .i64)))], [(.exit 0, [(5, (.own 206879 (.int .u64) true))])], []⟩)], [], []⟩
noncomputable def h_impl_areWords : FnH := ⟨152, Tryz.f152, (.tup (.v (.int .i64)) (.tup (.v (.int .u64)) (.tup (.v (.int .u64)) .unit))), (.tup (.v .bool) .unit), [], [], [], [], []⟩
noncomputable def h_bits_Div64 : FnH := ⟨153, Tryz.f153, (.tup (.v (.int .u64)) (.tup (.v (.int .u64)) (.tup (.v (.int .u64)) .unit))), (.tup (.v (.int .u64)) (.tup (.v (.int .u64)) .unit)), [], [], [], [], []⟩
noncomputable def h_impl_DivWord : FnH := ⟨137, Tryz.f137, (.tup (.v (.int .i64)) (.tup (.v (.int .u64)) (.tup (.v (.int .u64)) .unit))), (.tup (.v (.int .u64)) (.tup (.v (.int .u64)) (.tup (.v .bool) .unit))), [], [], [], [], []⟩
noncomputable def h_impl_shift : FnH := ⟨138, Tryz.f138, (.tup (.v (.int .i64)) (.tup (.v (.int .u64)) (.tup (.v (.int .u64)) (.tup (.v .bool) .unit)))), (.tup (.v (.int .u64)) .unit), [], [], [], [], []⟩
noncomputable def h_impl_truth : FnH := ⟨139, Tryz.f139, (.tup (.v .bool) .unit), (.tup (.v (.int .u64)) .unit), [], [], [], [], []⟩
noncomputable def h_impl_signed : FnH := ⟨140, Tryz.f140, (.tup (.v (.int .i64)) (.tup (.v (.int .u64)) .unit)), (.tup (.v (.int .i64)) .unit), [], [], [], [], []⟩
noncomputable def h_impl_apply : FnH := ⟨116, Tryz.f116, (.tup (.v (.int .i64)) (.tup (.v (.int .i64)) (.tup (.v (.int .u64)) (.tup (.v (.int .u64)) .unit)))), (.tup (.v (.int .u64)) .unit), [], [], [], [], []⟩
noncomputable def h_impl_valueOf : FnH := ⟨95, Tryz.f95, (.tup (.v (.int .i64)) (.tup (.v (.sl tyNode)) (.tup (.v (.sl (.int .u64))) .unit))), (.tup (.v (.int .u64)) .unit), [], [], [(0, ⟨[(0, (.v (.int .i64))), (2, (.v (.sl (.int .u64)))), (7, (.own 206881 (.int .u64) true)), (12, (.v (.sl tyNode))), (13, (.v (.int .i64))), (14, (.v (.int .i64)))], [(.exit 0, [(7, (.own 206882 (.int .u64) true))])], []⟩)], [], []⟩
noncomputable def h_impl_Program_holds : FnH := ⟨73, Tryz.f73, (.tup (.v tyProgram) (.tup (.v (.sl tyNode)) (.tup (.v (.sl (.int .u64))) .unit))), (.tup (.v .bool) .unit), [], [], [], [], []⟩
noncomputable def h_impl_Program_where : FnH := ⟨40, Tryz.f40, (.tup (.v tyProgram) (.tup (.v (.sl tyNode)) .unit)), (.tup (.own 206884 (.int .i64) true) .unit), [], [], [(0, ⟨[(1, (.v (.sl tyNode))), (2, (.sp tyProgram)), (5, (.own 206877 (.int .i64) true)), (9, (.v (.int .i64))), (10, (.v (.int .i64)))], [(.exit 0, [(5, (.own 206883 (.int .i64) true))])], []⟩)], [], []⟩
noncomputable def h_slices_Max_int : FnH := ⟨94, Tryz.f94, (.tup (.v (.sl (.int .i64))) .unit), (.tup (.v (.int .i64)) .unit), [], [], [(0, ⟨[(0, (.v (.sl (.int .i64)))), (3, (.v (.int .i64))), (4, (.v (.int .i64)))], [(.exit 0, [(3, (.v (.int .i64)))])], []⟩)], [], []⟩
noncomputable def h_impl_Sight_classes : FnH := ⟨71, Tryz.f71, (.tup (.v tySight) .unit), (.tup (.v (.int .i64)) .unit), [], [], [], [], []⟩
noncomputable def h_impl_marked : FnH := ⟨72, Tryz.f72, (.tup (.v (.sl .bool)) .unit), (.tup (.own 206888 (.int .i64) true) .unit), [], [], [(0, ⟨[(3, (.own 206886 (.int .i64) true)), (7, (.v (.sl .bool))), (8, (.v (.int .i64))), (9, (.v (.int .i64)))], [(.exit 0, [(3, (.own 206887 (.int .i64) true))])], []⟩)], [], []⟩
noncomputable def h_impl_Sight_classesOf : FnH := ⟨39, Tryz.f39, (.tup (.v tySight) (.tup (.v (.sl (.int .i64))) .unit)), (.tup (.own 206889 (.int .i64) true) .unit), [], [], [(0, ⟨[(2, (.sp tySight)), (5, (.own 206885 .bool true)), (11, (.v (.sl (.int .i64)))), (12, (.v (.int .i64))), (13, (.v (.int .i64)))], [(.exit 0, [(1206885, (.own 206885 .bool true))])], [5]⟩)], [], []⟩
noncomputable def h_impl_ClassStarts : FnH := ⟨12, Tryz.f12, (.tup (.v tyProgram) (.tup (.v tySight) .unit)), (.tup (.own 206890 (.int .i64) true) (.tup (.v .bool) .unit)), [], [], [], [], []⟩
noncomputable def h_laws_eqIntS : FnH := ⟨13, Tryz.f13, (.tup (.v (.sl (.int .i64))) (.tup (.v (.sl (.int .i64))) .unit)), (.tup (.v .bool) .unit), [], [], [(0, ⟨[(0, (.v (.sl (.int .i64)))), (1, (.v (.sl (.int .i64)))), (5, (.v (.int .i64)))], [(.ret, [(4, (.v .bool))]), (.exit 0, [])], []⟩)], [], []⟩
noncomputable def h_laws_eqNode : FnH := ⟨75, Tryz.f75, (.tup (.v tyNode) (.tup (.v tyNode) .unit)), (.tup (.v .bool) .unit), [], [], [], [], []⟩
noncomputable def h_laws_eqNodeS : FnH := ⟨41, Tryz.f41, (.tup (.v (.sl tyNode)) (.tup (.v (.sl tyNode)) .unit)), (.tup (.v .bool) .unit), [], [], [(0, ⟨[(0, (.v (.sl tyNode))), (1, (.v (.sl tyNode))), (5, (.v (.int .i64)))], [(.ret, [(4, (.v .bool))]), (.exit 0, [])], []⟩)], [], []⟩
noncomputable def h_laws_eqChange : FnH := ⟨117, Tryz.f117, (.tup (.v tyChange) (.tup (.v tyChange) .unit)), (.tup (.v .bool) .unit), [], [], [], [], []⟩
noncomputable def h_laws_eqChangeS : FnH := ⟨97, Tryz.f97, (.tup (.v (.sl tyChange)) (.tup (.v (.sl tyChange)) .unit)), (.tup (.v .bool) .unit), [], [], [(0, ⟨[(0, (.v (.sl tyChange))), (1, (.v (.sl tyChange))), (5, (.v (.int .i64)))], [(.ret, [(4, (.v .bool))]), (.exit 0, [])], []⟩)], [], []⟩
noncomputable def h_laws_eqCommand : FnH := ⟨76, Tryz.f76, (.tup (.v tyCommand) (.tup (.v tyCommand) .unit)), (.tup (.v .bool) .unit), [], [], [], [], []⟩
noncomputable def h_laws_eqCommandS : FnH := ⟨42, Tryz.f42, (.tup (.v (.sl tyCommand)) (.tup (.v (.sl tyCommand)) .unit)), (.tup (.v .bool) .unit), [], [], [(0, ⟨[(0, (.v (.sl tyCommand))), (1, (.v (.sl tyCommand))), (5, (.v (.int .i64)))], [(.ret, [(4, (.v .bool))]), (.exit 0, [])], []⟩)], [], []⟩
noncomputable def h_laws_eqProgram : FnH := ⟨14, Tryz.f14, (.tup (.v tyProgram) (.tup (.v tyProgram) .unit)), (.tup (.v .bool) .unit), [], [], [], [], []⟩
noncomputable def h_laws_eqSight : FnH := ⟨15, Tryz.f15, (.tup (.v tySight) (.tup (.v tySight) .unit)), (.tup (.v .bool) .unit), [], [], [], [], []⟩
noncomputable def h_laws_markNodeS : FnH := ⟨43, Tryz.f43, (.tup (.own 206892 tyNode true) (.tup (.v (.int .i64)) .unit)), (.tup (.own 206892 tyNode true) (.tup (.v (.int .i64)) .unit)), [206892], [], [(0, ⟨[(0, (.own 206891 tyNode true)), (1, (.v (.int .i64))), (5, (.v (.int .i64)))], [(.exit 0, [(1206891, (.own 206891 tyNode true)), (1, (.v (.int .i64)))])], []⟩)], [], []⟩
noncomputable def h_laws_markChangeS : FnH := ⟨77, Tryz.f77, (.tup (.own 206897 tyChange true) (.tup (.v (.int .i64)) .unit)), (.tup (.own 206897 tyChange true) (.tup (.v (.int .i64)) .unit)), [206897], [], [(0, ⟨[(0, (.own 206896 tyChange true)), (1, (.v (.int .i64))), (5, (.v (.int .i64)))], [(.exit 0, [(1206896, (.own 206896 tyChange true)), (1, (.v (.int .i64)))])], []⟩)], [], []⟩
noncomputable def h_laws_markCommandS : FnH := ⟨44, Tryz.f44, (.tup (.own 206895 tyCommand true) (.tup (.v (.int .i64)) .unit)), (.tup (.own 206895 tyCommand true) (.tup (.v (.int .i64)) .unit)), [206895], [], [(0, ⟨[(0, (.own 206894 tyCommand true)), (1, (.v (.int .i64))), (5, (.v (.int .i64)))], [(.exit 0, [(1206894, (.own 206894 tyCommand true)), (1, (.v (.int .i64)))])], []⟩)], [], []⟩
noncomputable def h_laws_markProgram : FnH := ⟨16, Tryz.f16, (.tup (.pair (.v (.int .i64)) (.pair (.v (.int .i64)) (.pair (.own 206893 tyNode true) (.own 206898 tyCommand true)))) (.tup (.v (.int .i64)) .unit)), (.tup (.own 206893 tyNode true) (.tup (.own 206898 tyCommand true) (.tup (.v (.int .i64)) .unit))), [206893, 206898], [], [], [], []⟩
noncomputable def h_laws_markIntS : FnH := ⟨18, Tryz.f18, (.tup (.own 206900 (.int .i64) true) (.tup (.v (.int .i64)) .unit)), (.tup (.own 206900 (.int .i64) true) (.tup (.v (.int .i64)) .unit)), [206900], [], [(0, ⟨[(0, (.own 206899 (.int .i64) true)), (1, (.v (.int .i64))), (5, (.v (.int .i64)))], [(.exit 0, [(1206899, (.own 206899 (.int .i64) true)), (1, (.v (.int .i64)))])], []⟩)], [], []⟩
noncomputable def h_laws_markSight : FnH := ⟨17, Tryz.f17, (.tup (.one (.own 206901 (.int .i64) true)) (.tup (.v (.int .i64)) .unit)), (.tup (.own 206901 (.int .i64) true) (.tup (.v (.int .i64)) .unit)), [206901], [], [], [], []⟩
noncomputable def h_laws_heldIntS : FnH := ⟨19, Tryz.f19, (.tup (.v (.sl (.int .i64))) (.tup (.v (.int .i64)) .unit)), (.tup (.v (.int .i64)) .unit), [], [], [(0, ⟨[(0, (.v (.sl (.int .i64)))), (1, (.v (.int .i64))), (5, (.v (.int .i64)))], [(.ret, [(4, (.v (.int .i64)))]), (.exit 0, [(1, (.v (.int .i64)))])], []⟩)], [], []⟩
noncomputable def h_laws_FnExactClassStarts : FnH := ⟨3, Tryz.f3, (.tup (.v tyProgram) (.tup (.v tySight) .unit)), (.tup (.v .bool) .unit), [], [], [], [], []⟩
def extsL : List (Nat × ExtF) := []
def tysL : List (Nat × Ty) := [(2, (.int .i64)), (3, (.int .i64)), (4, .bool), (22, (.sl tyNode)), (23, (.sl tyCommand)), (25, tyProgram), (26, (.sl (.int .i64))), (28, tySight), (33, (.sl tyNode)), (34, (.sl tyCommand)), (36, tyProgram), (38, tySight), (86, (.sl tyChange)), (88, tyCommand), (91, (.sl (.int .u64))), (93, (.int .u64)), (95, tyNode), (97, tyNode), (98, (.sl tyChange)), (100, tyCommand), (103, (.sl .bool)), (110, (.int .u64)), (128, tyChange), (140, tyChange)]
def nfsL : List (Nat × Nat) := [(25, 4), (28, 1), (36, 4), (38, 1), (88, 2), (95, 2), (97, 2), (100, 2), (128, 2), (140, 2)]
def cellsL : List Nat := []
noncomputable def keysL : List (Nat × FnH) := [(30, h_laws_szNodeS), (110, h_laws_szChange), (91, h_laws_szChangeS), (64, h_laws_szCommand), (31, h_laws_szCommandS), (7, h_laws_szProgram), (32, h_laws_szIntS), (8, h_laws_szSight), (68, h_laws_toNode), (36, h_laws_toNodeS), (115, h_laws_toChange), (93, h_laws_toChangeS), (69, h_laws_toCommand), (37, h_laws_toCommandS), (10, h_laws_toProgram), (21, h_laws_toIntS), (11, h_laws_toSight), (46, h_spec_l1In), (141, h_spec_l1Wide), (111, h_spec_l2Need), (112, h_spec_l1Cut), (154, h_spec_GoodWord), (142, h_spec_l2N), (118, h_spec_l2Kind), (98, h_spec_l7Asks), (99, h_spec_l7Command), (78, h_spec_GoodProgram), (45, h_spec_l7Small), (48, h_spec_l7Many), (33, h_spec_GoodSight), (67, h_spec_l7Of), (114, h_spec_l2From), (151, h_spec_l1Both), (133, h_spec_DivWord), (134, h_spec_l1Shift), (135, h_spec_l2Bool), (136, h_spec_l1Signed), (113, h_spec_l2Do), (92, h_spec_l2Value), (66, h_spec_l7Holds), (35, h_spec_l8Those), (65, h_spec_l1Put), (34, h_spec_l17Classes), (9, h_spec_ClassStarts), (100, h_impl_isWide), (101, h_impl_isVars), (155, h_impl_operandsOf), (96, h_impl_mask), (160, h_impl_GoodWord), (156, h_impl_isLeafRight), (158, h_impl_GoodTerm_1), (162, h_slices_IndexFunc_int_by_GoodTerm_1), (157, h_slices_ContainsFunc_int_by_GoodTerm_1), (143, h_impl_GoodTerm), (144, h_impl_kindOf), (119, h_impl_isTermOf), (102, h_impl_Program_isCondition), (105, h_impl_Program_isCommand), (104, h_impl_GoodProgram_1), (120, h_slices_IndexFunc_Command_by_GoodProgram_1), (103, h_slices_ContainsFunc_Command_by_GoodProgram_1), (81, h_impl_GoodProgram), (50, h_impl_isSmall), (53, h_impl_Program_states), (70, h_impl_isSight), (38, h_impl_GoodSight), (74, h_impl_Program_stateOf), (152, h_impl_areWords), (153, h_bits_Div64), (137, h_impl_DivWord), (138, h_impl_shift), (139, h_impl_truth), (140, h_impl_signed), (116, h_impl_apply), (95, h_impl_valueOf), (73, h_impl_Program_holds), (40, h_impl_Program_where), (94, h_slices_Max_int), (71, h_impl_Sight_classes), (72, h_impl_marked), (39, h_impl_Sight_classesOf), (12, h_impl_ClassStarts), (13, h_laws_eqIntS), (75, h_laws_eqNode), (41, h_laws_eqNodeS), (117, h_laws_eqChange), (97, h_laws_eqChangeS), (76, h_laws_eqCommand), (42, h_laws_eqCommandS), (14, h_laws_eqProgram), (15, h_laws_eqSight), (43, h_laws_markNodeS), (77, h_laws_markChangeS), (44, h_laws_markCommandS), (16, h_laws_markProgram), (18, h_laws_markIntS), (17, h_laws_markSight), (19, h_laws_heldIntS), (3, h_laws_FnExactClassStarts)]
noncomputable def H : Hints := { extF := fun f => lookupN extsL f, ty := fun T => lookupN tysL T, nf := fun T => match lookupN nfsL T with | some n => n | none => 0, cell := fun T => hasN cellsL T, key := fun k => lookupN keysL k }
noncomputable def laws_szNodeS (a : Bool × List DNode) (left_ : Int) : Option Int := (inf H).call 30 (a, left_)
noncomputable def laws_szChange (a : DChange) (left_ : Int) : Option Int := (inf H).call 110 (a, left_)
noncomputable def laws_szChangeS (a : Bool × List DChange) (left_ : Int) : Option Int := (inf H).call 91 (a, left_)
theorem key_laws_szChangeS : H.key 91 = some h_laws_szChangeS := by kernel_rfl
noncomputable def laws_szChangeS_L0 (a : Bool × List DChange) (left_ : Int) (i : Int) : Option (Int ⊕ Int) := (inf H).loop 91 0 (loopCode Tryz.f91 0) (a, (left_, i))
noncomputable def laws_szCommand (a : DCommand) (left_ : Int) : Option Int := (inf H).call 64 (a, left_)
noncomputable def laws_szCommandS (a : Bool × List DCommand) (left_ : Int) : Option Int := (inf H).call 31 (a, left_)
theorem key_laws_szCommandS : H.key 31 = some h_laws_szCommandS := by kernel_rfl
noncomputable def laws_szCommandS_L0 (a : Bool × List DCommand) (left_ : Int) (i : Int) : Option (Int ⊕ Int) := (inf H).loop 31 0 (loopCode Tryz.f31 0) (a, (left_, i))
noncomputable def laws_szProgram (a : DProgram) (left_ : Int) : Option Int := (inf H).call 7 (a, left_)
noncomputable def laws_szIntS (a : Bool × List Int) (left_ : Int) : Option Int := (inf H).call 32 (a, left_)
noncomputable def laws_szSight (a : DSight) (left_ : Int) : Option Int := (inf H).call 8 (a, left_)
noncomputable def laws_toNode (a : DNode) : Option DNode := (inf H).call 68 a
noncomputable def laws_toNodeS (a : Bool × List DNode) : Option (Bool × List DNode) := (inf H).call 36 a
theorem key_laws_toNodeS : H.key 36 = some h_laws_toNodeS := by kernel_rfl
noncomputable def laws_toNodeS_L0 (a : Bool × List DNode) (out : Bool × List DNode) (i : Int) : Option (Bool × List DNode) := (inf H).loop 36 0 (loopCode Tryz.f36 0) (a, (out, i))
noncomputable def laws_toChange (a : DChange) : Option DChange := (inf H).call 115 a
noncomputable def laws_toChangeS (a : Bool × List DChange) : Option (Bool × List DChange) := (inf H).call 93 a
theorem key_laws_toChangeS : H.key 93 = some h_laws_toChangeS := by kernel_rfl
noncomputable def laws_toChangeS_L0 (a : Bool × List DChange) (out : Bool × List DChange) (i : Int) : Option (Bool × List DChange) := (inf H).loop 93 0 (loopCode Tryz.f93 0) (a, (out, i))
noncomputable def laws_toCommand (a : DCommand) : Option DCommand := (inf H).call 69 a
noncomputable def laws_toCommandS (a : Bool × List DCommand) : Option (Bool × List DCommand) := (inf H).call 37 a
theorem key_laws_toCommandS : H.key 37 = some h_laws_toCommandS := by kernel_rfl
noncomputable def laws_toCommandS_L0 (a : Bool × List DCommand) (out : Bool × List DCommand) (i : Int) : Option (Bool × List DCommand) := (inf H).loop 37 0 (loopCode Tryz.f37 0) (a, (out, i))
noncomputable def laws_toProgram (a : DProgram) : Option DProgram := (inf H).call 10 a
noncomputable def laws_toIntS (a : Bool × List Int) : Option (Bool × List Int) := (inf H).call 21 a
theorem key_laws_toIntS : H.key 21 = some h_laws_toIntS := by kernel_rfl
noncomputable def laws_toIntS_L0 (a : Bool × List Int) (out : Bool × List Int) (i : Int) : Option (Bool × List Int) := (inf H).loop 21 0 (loopCode Tryz.f21 0) (a, (out, i))
noncomputable def laws_toSight (a : DSight) : Option (Bool × List Int) := (inf H).call 11 a
noncomputable def spec_l1In (n : Int) (lo : Int) (hi : Int) : Option Bool := (inf H).call 46 (n, (lo, hi))
noncomputable def spec_l1Wide (wide : Int) : Option Bool := (inf H).call 141 wide
noncomputable def spec_l2Need (op : Int) : Option (Int × Int × Int) := (inf H).call 111 op
noncomputable def spec_l1Cut (wide : Int) (a : Int) : Option Int := (inf H).call 112 (wide, a)
theorem key_spec_l1Cut : H.key 112 = some h_spec_l1Cut := by kernel_rfl
noncomputable def spec_l1Cut_L0 (wide : Int) (a : Int) (out : Int) (k_ : Int) : Option Int := (inf H).loop 112 0 (loopCode Tryz.f112 0) (wide, (a, (out, k_)))
noncomputable def spec_GoodWord (wide : Int) (a : Int) : Option Bool := (inf H).call 154 (wide, a)
noncomputable def spec_l2N (wide : Int) (vars : Int) (n : DNode) : Option Bool := (inf H).call 142 (wide, (vars, n))
noncomputable def spec_l2Kind (wide : Int) (vars : Int) (t : Bool × List DNode) : Option Int := (inf H).call 118 (wide, (vars, t))
theorem key_spec_l2Kind : H.key 118 = some h_spec_l2Kind := by kernel_rfl
noncomputable def spec_l2Kind_L0 (wide : Int) (vars : Int) (pile : Bool × List Int) (t27 : Bool × List DNode) (t28 : Int) (t29 : Int) : Option (Int ⊕ (Bool × List Int)) := (inf H).loop 118 0 (loopCode Tryz.f118 0) (wide, (vars, (pile, (t27, (t28, t29)))))
noncomputable def spec_l2Kind_L2 (wide : Int) (vars : Int) (pile : Bool × List Int) (many : Int) (part : Int) (own : Int) (t27 : Bool × List DNode) (t28 : Int) (t29 : Int) : Option (Int ⊕ (Bool × List Int)) := (inf H).loop 118 2 (loopCode Tryz.f118 2) (wide, (vars, (pile, (many, (part, (own, (t27, (t28, t29))))))))
noncomputable def spec_l7Asks (p : DProgram) (t : Bool × List DNode) : Option Bool := (inf H).call 98 (p, t)
noncomputable def spec_l7Command (p : DProgram) (c : DCommand) : Option Bool := (inf H).call 99 (p, c)
theorem key_spec_l7Command : H.key 99 = some h_spec_l7Command := by kernel_rfl
noncomputable def spec_l7Command_L0 (p : DProgram) (c : DCommand) (t21 : Bool × List DChange) (t22 : Int) (t23 : Int) : Option (Bool ⊕ Unit) := (inf H).loop 99 0 (loopCode Tryz.f99 0) (p, (c, (t21, (t22, t23))))
noncomputable def spec_GoodProgram (p : DProgram) : Option Bool := (inf H).call 78 p
theorem key_spec_GoodProgram : H.key 78 = some h_spec_GoodProgram := by kernel_rfl
noncomputable def spec_GoodProgram_L0 (p : DProgram) (t18 : Bool × List DCommand) (t19 : Int) (t20 : Int) : Option (Bool ⊕ Unit) := (inf H).loop 78 0 (loopCode Tryz.f78 0) (p, (t18, (t19, t20)))
noncomputable def spec_l7Small (p : DProgram) : Option Bool := (inf H).call 45 p
noncomputable def spec_l7Many (p : DProgram) : Option Int := (inf H).call 48 p
noncomputable def spec_GoodSight (p : DProgram) (v : DSight) : Option Bool := (inf H).call 33 (p, v)
theorem key_spec_GoodSight : H.key 33 = some h_spec_GoodSight := by kernel_rfl
noncomputable def spec_GoodSight_L0 (many : Int) (t20 : Bool × List Int) (t21 : Int) (t22 : Int) : Option (Bool ⊕ Unit) := (inf H).loop 33 0 (loopCode Tryz.f33 0) (many, (t20, (t21, t22)))
noncomputable def spec_l7Of (p : DProgram) (no : Int) : Option (Bool × List Int) := (inf H).call 67 (p, no)
theorem key_spec_l7Of : H.key 67 = some h_spec_l7Of := by kernel_rfl
noncomputable def spec_l7Of_L0 (no : Int) (p : DProgram) (out : Bool × List Int) (v : Int) : Option (Bool × List Int) := (inf H).loop 67 0 (loopCode Tryz.f67 0) (no, (p, (out, v)))
noncomputable def spec_l2From (t : Bool × List DNode) (k_ : Int) : Option Int := (inf H).call 114 (t, k_)
theorem key_spec_l2From : H.key 114 = some h_spec_l2From := by kernel_rfl
noncomputable def spec_l2From_L0 (t : Bool × List DNode) (many : Int) (from_ : Int) : Option Int := (inf H).loop 114 0 (loopCode Tryz.f114 0) (t, (many, from_))
noncomputable def spec_l1Both (wide : Int) (a : Int) (b : Int) : Option Bool := (inf H).call 151 (wide, (a, b))
noncomputable def spec_DivWord (wide : Int) (a : Int) (b : Int) : Option (Int × Int × Bool) := (inf H).call 133 (wide, (a, b))
noncomputable def spec_l1Shift (wide : Int) (a : Int) (by_ : Int) (left_ : Bool) : Option Int := (inf H).call 134 (wide, (a, (by_, left_)))
theorem key_spec_l1Shift : H.key 134 = some h_spec_l1Shift := by kernel_rfl
noncomputable def spec_l1Shift_L0 (wide : Int) (a : Int) (by_ : Int) (left_ : Bool) : Option Int := (inf H).loop 134 0 (loopCode Tryz.f134 0) (wide, (a, (by_, left_)))
noncomputable def spec_l2Bool (is : Bool) : Option Int := (inf H).call 135 is
noncomputable def spec_l1Signed (wide : Int) (a : Int) : Option Int := (inf H).call 136 (wide, a)
noncomputable def spec_l2Do (wide : Int) (op : Int) (a : Int) (b : Int) : Option Int := (inf H).call 113 (wide, (op, (a, b)))
noncomputable def spec_l2Value (wide : Int) (t : Bool × List DNode) (k_ : Int) (state : Bool × List Int) : Option Int := (inf H).call 92 (wide, (t, (k_, state)))
noncomputable def spec_l7Holds (p : DProgram) (t : Bool × List DNode) (s : Bool × List Int) : Option Bool := (inf H).call 66 (p, (t, s))
noncomputable def spec_l8Those (p : DProgram) (t : Bool × List DNode) : Option (Bool × List Int) := (inf H).call 35 (p, t)
theorem key_spec_l8Those : H.key 35 = some h_spec_l8Those := by kernel_rfl
noncomputable def spec_l8Those_L0 (t : Bool × List DNode) (p : DProgram) (out : Bool × List Int) (no : Int) : Option (Bool × List Int) := (inf H).loop 35 0 (loopCode Tryz.f35 0) (t, (p, (out, no)))
noncomputable def spec_l1Put (l : Bool × List Int) (n : Int) : Option (Bool × List Int) := (inf H).call 65 (l, n)
theorem key_spec_l1Put : H.key 65 = some h_spec_l1Put := by kernel_rfl
noncomputable def spec_l1Put_L0 (l : Bool × List Int) (n : Int) (k_ : Int) : Option Int := (inf H).loop 65 0 (loopCode Tryz.f65 0) (l, (n, k_))
noncomputable def spec_l17Classes (v : DSight) (states : Bool × List Int) : Option (Bool × List Int) := (inf H).call 34 (v, states)
theorem key_spec_l17Classes : H.key 34 = some h_spec_l17Classes := by kernel_rfl
noncomputable def spec_l17Classes_L0 (v : DSight) (out : Bool × List Int) (t8 : Bool × List Int) (t9 : Int) (t10 : Int) : Option (Bool × List Int) := (inf H).loop 34 0 (loopCode Tryz.f34 0) (v, (out, (t8, (t9, t10))))
noncomputable def spec_ClassStarts (p : DProgram) (v : DSight) : Option ((Bool × List Int) × Bool) := (inf H).call 9 (p, v)
noncomputable def impl_isWide (n : Int) : Option Bool := (inf H).call 100 n
noncomputable def impl_isVars (n : Int) : Option Bool := (inf H).call 101 n
noncomputable def impl_operandsOf (op : Int) : Option (Int × Int × Int) := (inf H).call 155 op
noncomputable def impl_mask (wide : Int) : Option Int := (inf H).call 96 wide
noncomputable def impl_GoodWord (wide : Int) (a : Int) : Option Bool := (inf H).call 160 (wide, a)
noncomputable def impl_isLeafRight (wide : Int) (vars : Int) (x : DNode) : Option Bool := (inf H).call 156 (wide, (vars, x))
noncomputable def impl_GoodTerm_1 (own : Int) (a1 : Int) : Option Bool := (inf H).call 158 (own, a1)
noncomputable def slices_IndexFunc_int_by_GoodTerm_1 (s : Bool × List Int) (f : Int × Unit) : Option Int := (inf H).call 162 (s, f)
theorem key_slices_IndexFunc_int_by_GoodTerm_1 : H.key 162 = some h_slices_IndexFunc_int_by_GoodTerm_1 := by kernel_rfl
noncomputable def slices_IndexFunc_int_by_GoodTerm_1_L0 (s : Bool × List Int) (f : Int × Unit) (t7 : Int) (t8 : Int) : Option (Int ⊕ Unit) := (inf H).loop 162 0 (loopCode Tryz.f162 0) (s, (f, (t7, t8)))
noncomputable def slices_ContainsFunc_int_by_GoodTerm_1 (s : Bool × List Int) (f : Int × Unit) : Option Bool := (inf H).call 157 (s, f)
noncomputable def impl_GoodTerm (wide : Int) (vars : Int) (t : Bool × List DNode) : Option Bool := (inf H).call 143 (wide, (vars, t))
theorem key_impl_GoodTerm : H.key 143 = some h_impl_GoodTerm := by kernel_rfl
noncomputable def impl_GoodTerm_L0 (wide : Int) (vars : Int) (stack : Bool × List Int) (t33 : Bool × List DNode) (t34 : Int) (t35 : Int) : Option (Bool ⊕ (Bool × List Int)) := (inf H).loop 143 0 (loopCode Tryz.f143 0) (wide, (vars, (stack, (t33, (t34, t35)))))
noncomputable def impl_kindOf (t : Bool × List DNode) : Option Int := (inf H).call 144 t
noncomputable def impl_isTermOf (wide : Int) (vars : Int) (t : Bool × List DNode) (kind : Int) : Option Bool := (inf H).call 119 (wide, (vars, (t, kind)))
noncomputable def impl_Program_isCondition (p : DProgram) (t : Bool × List DNode) : Option Bool := (inf H).call 102 (p, t)
noncomputable def impl_Program_isCommand (p : DProgram) (c : DCommand) : Option Bool := (inf H).call 105 (p, c)
theorem key_impl_Program_isCommand : H.key 105 = some h_impl_Program_isCommand := by kernel_rfl
noncomputable def impl_Program_isCommand_L0 (p : DProgram) (c : DCommand) (t13 : Bool × List DChange) (t14 : Int) (t15 : Int) : Option (Bool ⊕ Unit) := (inf H).loop 105 0 (loopCode Tryz.f105 0) (p, (c, (t13, (t14, t15))))
noncomputable def impl_GoodProgram_1 (c : DCommand) (a1 : DProgram) : Option Bool := (inf H).call 104 (c, a1)
noncomputable def slices_IndexFunc_Command_by_GoodProgram_1 (s : Bool × List DCommand) (f : DProgram × Unit) : Option Int := (inf H).call 120 (s, f)
theorem key_slices_IndexFunc_Command_by_GoodProgram_1 : H.key 120 = some h_slices_IndexFunc_Command_by_GoodProgram_1 := by kernel_rfl
noncomputable def slices_IndexFunc_Command_by_GoodProgram_1_L0 (s : Bool × List DCommand) (f : DProgram × Unit) (t7 : Int) (t8 : Int) : Option (Int ⊕ Unit) := (inf H).loop 120 0 (loopCode Tryz.f120 0) (s, (f, (t7, t8)))
noncomputable def slices_ContainsFunc_Command_by_GoodProgram_1 (s : Bool × List DCommand) (f : DProgram × Unit) : Option Bool := (inf H).call 103 (s, f)
noncomputable def impl_GoodProgram (p : DProgram) : Option Bool := (inf H).call 81 p
noncomputable def impl_isSmall (p : DProgram) : Option Bool := (inf H).call 50 p
noncomputable def impl_Program_states (p : DProgram) : Option Int := (inf H).call 53 p
noncomputable def impl_isSight (v : DSight) (states : Int) : Option Bool := (inf H).call 70 (v, states)
theorem key_impl_isSight : H.key 70 = some h_impl_isSight := by kernel_rfl
noncomputable def impl_isSight_L0 (states : Int) (v : DSight) (classes : Int) (t9 : Bool × List Int) (t10 : Int) (t11 : Int) : Option (Bool ⊕ Unit) := (inf H).loop 70 0 (loopCode Tryz.f70 0) (states, (v, (classes, (t9, (t10, t11)))))
noncomputable def impl_GoodSight (p : DProgram) (v : DSight) : Option Bool := (inf H).call 38 (p, v)
noncomputable def impl_Program_stateOf (p : DProgram) (no : Int) : Option (Bool × List Int) := (inf H).call 74 (p, no)
theorem key_impl_Program_stateOf : H.key 74 = some h_impl_Program_stateOf := by kernel_rfl
noncomputable def impl_Program_stateOf_L0 (no : Int) (p : DProgram) (out : Bool × List Int) (t9 : Int) (t10 : Int) : Option (Bool × List Int) := (inf H).loop 74 0 (loopCode Tryz.f74 0) (no, (p, (out, (t9, t10))))
noncomputable def impl_areWords (wide : Int) (a : Int) (b : Int) : Option Bool := (inf H).call 152 (wide, (a, b))
noncomputable def bits_Div64 (hi : Int) (lo : Int) (y : Int) : Option (Int × Int) := (inf H).call 153 (hi, (lo, y))
noncomputable def impl_DivWord (wide : Int) (a : Int) (b : Int) : Option (Int × Int × Bool) := (inf H).call 137 (wide, (a, b))
noncomputable def impl_shift (wide : Int) (a : Int) (by_ : Int) (left_ : Bool) : Option Int := (inf H).call 138 (wide, (a, (by_, left_)))
noncomputable def impl_truth (holds : Bool) : Option Int := (inf H).call 139 holds
noncomputable def impl_signed (wide : Int) (a : Int) : Option Int := (inf H).call 140 (wide, a)
noncomputable def impl_apply (wide : Int) (op : Int) (a : Int) (b : Int) : Option Int := (inf H).call 116 (wide, (op, (a, b)))
noncomputable def impl_valueOf (wide : Int) (t : Bool × List DNode) (state : Bool × List Int) : Option Int := (inf H).call 95 (wide, (t, state))
theorem key_impl_valueOf : H.key 95 = some h_impl_valueOf := by kernel_rfl
noncomputable def impl_valueOf_L0 (wide : Int) (state : Bool × List Int) (stack : Bool × List Int) (t12 : Bool × List DNode) (t13 : Int) (t14 : Int) : Option (Bool × List Int) := (inf H).loop 95 0 (loopCode Tryz.f95 0) (wide, (state, (stack, (t12, (t13, t14)))))
noncomputable def impl_Program_holds (p : DProgram) (t : Bool × List DNode) (s : Bool × List Int) : Option Bool := (inf H).call 73 (p, (t, s))
noncomputable def impl_Program_where (p : DProgram) (t : Bool × List DNode) : Option (Bool × List Int) := (inf H).call 40 (p, t)
theorem key_impl_Program_where : H.key 40 = some h_impl_Program_where := by kernel_rfl
noncomputable def impl_Program_where_L0 (t : Bool × List DNode) (p : DProgram) (out : Bool × List Int) (t9 : Int) (t10 : Int) : Option (Bool × List Int) := (inf H).loop 40 0 (loopCode Tryz.f40 0) (t, (p, (out, (t9, t10))))
noncomputable def slices_Max_int (x : Bool × List Int) : Option Int := (inf H).call 94 x
theorem key_slices_Max_int : H.key 94 = some h_slices_Max_int := by kernel_rfl
noncomputable def slices_Max_int_L0 (x : Bool × List Int) (m : Int) (i : Int) : Option Int := (inf H).loop 94 0 (loopCode Tryz.f94 0) (x, (m, i))
noncomputable def impl_Sight_classes (v : DSight) : Option Int := (inf H).call 71 v
noncomputable def impl_marked (list : Bool × List Bool) : Option (Bool × List Int) := (inf H).call 72 list
theorem key_impl_marked : H.key 72 = some h_impl_marked := by kernel_rfl
noncomputable def impl_marked_L0 (out : Bool × List Int) (t7 : Bool × List Bool) (t8 : Int) (t9 : Int) : Option (Bool × List Int) := (inf H).loop 72 0 (loopCode Tryz.f72 0) (out, (t7, (t8, t9)))
noncomputable def impl_Sight_classesOf (v : DSight) (some_ : Bool × List Int) : Option (Bool × List Int) := (inf H).call 39 (v, some_)
theorem key_impl_Sight_classesOf : H.key 39 = some h_impl_Sight_classesOf := by kernel_rfl
noncomputable def impl_Sight_classesOf_L0 (v : DSight) (in_ : Bool × List Bool) (t11 : Bool × List Int) (t12 : Int) (t13 : Int) : Option (Bool × List Bool) := (inf H).loop 39 0 (loopCode Tryz.f39 0) (v, (in_, (t11, (t12, t13))))
noncomputable def impl_ClassStarts (p : DProgram) (v : DSight) : Option ((Bool × List Int) × Bool) := (inf H).call 12 (p, v)
noncomputable def laws_eqIntS (a : Bool × List Int) (b : Bool × List Int) : Option Bool := (inf H).call 13 (a, b)
theorem key_laws_eqIntS : H.key 13 = some h_laws_eqIntS := by kernel_rfl
noncomputable def laws_eqIntS_L0 (a : Bool × List Int) (b : Bool × List Int) (i : Int) : Option (Bool ⊕ Unit) := (inf H).loop 13 0 (loopCode Tryz.f13 0) (a, (b, i))
noncomputable def laws_eqNode (a : DNode) (b : DNode) : Option Bool := (inf H).call 75 (a, b)
noncomputable def laws_eqNodeS (a : Bool × List DNode) (b : Bool × List DNode) : Option Bool := (inf H).call 41 (a, b)
theorem key_laws_eqNodeS : H.key 41 = some h_laws_eqNodeS := by kernel_rfl
noncomputable def laws_eqNodeS_L0 (a : Bool × List DNode) (b : Bool × List DNode) (i : Int) : Option (Bool ⊕ Unit) := (inf H).loop 41 0 (loopCode Tryz.f41 0) (a, (b, i))
noncomputable def laws_eqChange (a : DChange) (b : DChange) : Option Bool := (inf H).call 117 (a, b)
noncomputable def laws_eqChangeS (a : Bool × List DChange) (b : Bool × List DChange) : Option Bool := (inf H).call 97 (a, b)
theorem key_laws_eqChangeS : H.key 97 = some h_laws_eqChangeS := by kernel_rfl
noncomputable def laws_eqChangeS_L0 (a : Bool × List DChange) (b : Bool × List DChange) (i : Int) : Option (Bool ⊕ Unit) := (inf H).loop 97 0 (loopCode Tryz.f97 0) (a, (b, i))
noncomputable def laws_eqCommand (a : DCommand) (b : DCommand) : Option Bool := (inf H).call 76 (a, b)
noncomputable def laws_eqCommandS (a : Bool × List DCommand) (b : Bool × List DCommand) : Option Bool := (inf H).call 42 (a, b)
theorem key_laws_eqCommandS : H.key 42 = some h_laws_eqCommandS := by kernel_rfl
noncomputable def laws_eqCommandS_L0 (a : Bool × List DCommand) (b : Bool × List DCommand) (i : Int) : Option (Bool ⊕ Unit) := (inf H).loop 42 0 (loopCode Tryz.f42 0) (a, (b, i))
noncomputable def laws_eqProgram (a : DProgram) (b : DProgram) : Option Bool := (inf H).call 14 (a, b)
noncomputable def laws_eqSight (a : DSight) (b : DSight) : Option Bool := (inf H).call 15 (a, b)
noncomputable def laws_markNodeS (a : Bool × List DNode) (k_ : Int) : Option ((Bool × List DNode) × Int) := (inf H).call 43 (a, k_)
theorem key_laws_markNodeS : H.key 43 = some h_laws_markNodeS := by kernel_rfl
noncomputable def laws_markNodeS_L0 (a : Bool × List DNode) (k_ : Int) (i : Int) : Option ((Bool × List DNode) × Int) := (inf H).loop 43 0 (loopCode Tryz.f43 0) (a, (k_, i))
noncomputable def laws_markChangeS (a : Bool × List DChange) (k_ : Int) : Option ((Bool × List DChange) × Int) := (inf H).call 77 (a, k_)
theorem key_laws_markChangeS : H.key 77 = some h_laws_markChangeS := by kernel_rfl
noncomputable def laws_markChangeS_L0 (a : Bool × List DChange) (k_ : Int) (i : Int) : Option ((Bool × List DChange) × Int) := (inf H).loop 77 0 (loopCode Tryz.f77 0) (a, (k_, i))
noncomputable def laws_markCommandS (a : Bool × List DCommand) (k_ : Int) : Option ((Bool × List DCommand) × Int) := (inf H).call 44 (a, k_)
theorem key_laws_markCommandS : H.key 44 = some h_laws_markCommandS := by kernel_rfl
noncomputable def laws_markCommandS_L0 (a : Bool × List DCommand) (k_ : Int) (i : Int) : Option ((Bool × List DCommand) × Int) := (inf H).loop 44 0 (loopCode Tryz.f44 0) (a, (k_, i))
noncomputable def laws_markProgram (a0_0 : Int) (a0_1 : Int) (a0_2 : Bool × List DNode) (a0_3 : Bool × List DCommand) (k_ : Int) : Option ((Bool × List DNode) × (Bool × List DCommand) × Int) := (inf H).call 16 (a0_0, (a0_1, (a0_2, (a0_3, k_))))
noncomputable def laws_markIntS (a : Bool × List Int) (k_ : Int) : Option ((Bool × List Int) × Int) := (inf H).call 18 (a, k_)
theorem key_laws_markIntS : H.key 18 = some h_laws_markIntS := by kernel_rfl
noncomputable def laws_markIntS_L0 (a : Bool × List Int) (k_ : Int) (i : Int) : Option ((Bool × List Int) × Int) := (inf H).loop 18 0 (loopCode Tryz.f18 0) (a, (k_, i))
noncomputable def laws_markSight (a : Bool × List Int) (k_ : Int) : Option ((Bool × List Int) × Int) := (inf H).call 17 (a, k_)
noncomputable def laws_heldIntS (a : Bool × List Int) (k_ : Int) : Option Int := (inf H).call 19 (a, k_)
theorem key_laws_heldIntS : H.key 19 = some h_laws_heldIntS := by kernel_rfl
noncomputable def laws_heldIntS_L0 (a : Bool × List Int) (k_ : Int) (i : Int) : Option (Int ⊕ Int) := (inf H).loop 19 0 (loopCode Tryz.f19 0) (a, (k_, i))
noncomputable def laws_FnExactClassStarts (aP : DProgram) (aV : DSight) : Option Bool := (inf H).call 3 (aP, aV)
theorem laws_szNodeS_eq (a : Bool × List DNode) (left_ : Int) : laws_szNodeS a left_ =
 bif decide ((IntKind.i64.wrap (left_ - (a.2.length : Int))) < 0) then
 some (-1)
else 
 some (IntKind.i64.wrap (left_ - (a.2.length : Int))) := Eq.trans (inf_call_eq (H := H) 30 (a, left_)) (by kernel_rfl)
theorem laws_szChange_eq (a : DChange) (left_ : Int) : laws_szChange a left_ =
(laws_szNodeS a.2 left_).bind fun r =>
 bif decide (r < 0) then
 some (-1)
else 
 some r := Eq.trans (inf_call_eq (H := H) 110 (a, left_)) (by kernel_rfl)
theorem laws_szChangeS_L0_eq (a : Bool × List DChange) (left_ : Int) (i : Int) : laws_szChangeS_L0 a left_ i =
 bif decide (i < (a.2.length : Int)) then
 bif decide (0 ≤ i) then
 bif decide (i < (a.2.length : Int)) then
(laws_szChange (a.2.getD (Int.toNat i) (0, (true, []))) left_).bind fun r =>
 bif decide (r < 0) then
 some (.inl (-1))
else 
(laws_szChangeS_L0 a r (IntKind.i64.wrap (i + 1))).bind fun r => some r
else none
else none
else 
 some (.inr left_) := Eq.trans (inf_loop_eq (H := H) 91 0 (loopCode Tryz.f91 0) (a, (left_, i)) key_laws_szChangeS) (by kernel_rfl)
theorem laws_szChangeS_eq (a : Bool × List DChange) (left_ : Int) : laws_szChangeS a left_ =
 bif decide ((IntKind.i64.wrap (left_ - (a.2.length : Int))) < 0) then
 some (-1)
else 
(laws_szChangeS_L0 a (IntKind.i64.wrap (left_ - (a.2.length : Int))) 0).bind fun r =>
 match r with
| .inl y =>
 some y
| .inr z =>
 some z := Eq.trans (inf_call_eq (H := H) 91 (a, left_)) (by kernel_rfl)
theorem laws_szCommand_eq (a : DCommand) (left_ : Int) : laws_szCommand a left_ =
(laws_szNodeS a.1 left_).bind fun r =>
 bif decide (r < 0) then
 some (-1)
else 
(laws_szChangeS a.2 r).bind fun r1 =>
 bif decide (r1 < 0) then
 some (-1)
else 
 some r1 := Eq.trans (inf_call_eq (H := H) 64 (a, left_)) (by kernel_rfl)
theorem laws_szCommandS_L0_eq (a : Bool × List DCommand) (left_ : Int) (i : Int) : laws_szCommandS_L0 a left_ i =
 bif decide (i < (a.2.length : Int)) then
 bif decide (0 ≤ i) then
 bif decide (i < (a.2.length : Int)) then
(laws_szCommand (a.2.getD (Int.toNat i) ((true, []), (true, []))) left_).bind fun r =>
 bif decide (r < 0) then
 some (.inl (-1))
else 
(laws_szCommandS_L0 a r (IntKind.i64.wrap (i + 1))).bind fun r => some r
else none
else none
else 
 some (.inr left_) := Eq.trans (inf_loop_eq (H := H) 31 0 (loopCode Tryz.f31 0) (a, (left_, i)) key_laws_szCommandS) (by kernel_rfl)
theorem laws_szCommandS_eq (a : Bool × List DCommand) (left_ : Int) : laws_szCommandS a left_ =
 bif decide ((IntKind.i64.wrap (left_ - (a.2.length : Int))) < 0) then
 some (-1)
else 
(laws_szCommandS_L0 a (IntKind.i64.wrap (left_ - (a.2.length : Int))) 0).bind fun r =>
 match r with
| .inl y =>
 some y
| .inr z =>
 some z := Eq.trans (inf_call_eq (H := H) 31 (a, left_)) (by kernel_rfl)
theorem laws_szProgram_eq (a : DProgram) (left_ : Int) : laws_szProgram a left_ =
(laws_szNodeS a.2.2.1 left_).bind fun r =>
 bif decide (r < 0) then
 some (-1)
else 
(laws_szCommandS a.2.2.2 r).bind fun r1 =>
 bif decide (r1 < 0) then
 some (-1)
else 
 some r1 := Eq.trans (inf_call_eq (H := H) 7 (a, left_)) (by kernel_rfl)
theorem laws_szIntS_eq (a : Bool × List Int) (left_ : Int) : laws_szIntS a left_ =
 bif decide ((IntKind.i64.wrap (left_ - (a.2.length : Int))) < 0) then
 some (-1)
else 
 some (IntKind.i64.wrap (left_ - (a.2.length : Int))) := Eq.trans (inf_call_eq (H := H) 32 (a, left_)) (by kernel_rfl)
theorem laws_szSight_eq (a : DSight) (left_ : Int) : laws_szSight a left_ =
(laws_szIntS a left_).bind fun r =>
 bif decide (r < 0) then
 some (-1)
else 
 some r := Eq.trans (inf_call_eq (H := H) 8 (a, left_)) (by kernel_rfl)
theorem laws_toNode_eq (a : DNode) : laws_toNode a =
 some (a.1, a.2) := Eq.trans (inf_call_eq (H := H) 68 a) (by kernel_rfl)
theorem laws_toNodeS_L0_eq (a : Bool × List DNode) (out : Bool × List DNode) (i : Int) : laws_toNodeS_L0 a out i =
 bif decide (i < (a.2.length : Int)) then
 bif decide (0 ≤ i) then
 bif decide (i < (a.2.length : Int)) then
(laws_toNode (a.2.getD (Int.toNat i) (0, 0))).bind fun r =>
 bif decide (0 ≤ i) then
 bif decide (i < (out.2.length : Int)) then
(laws_toNodeS_L0 a (out.1, (out.2.set (Int.toNat i) r)) (IntKind.i64.wrap (i + 1))).bind fun r => some r
else none
else none
else none
else none
else 
 some (out.1, out.2) := Eq.trans (inf_loop_eq (H := H) 36 0 (loopCode Tryz.f36 0) (a, (out, i)) key_laws_toNodeS) (by kernel_rfl)
theorem laws_toNodeS_eq (a : Bool × List DNode) : laws_toNodeS a =
 bif decide (0 ≤ (a.2.length : Int)) then
 bif decide ((a.2.length : Int) ≤ lim) then
 bif decide ((a.2.length : Int) ≤ (a.2.length : Int)) then
 bif decide ((a.2.length : Int) ≤ lim) then
(laws_toNodeS_L0 a (false, (List.replicate (Int.toNat (a.2.length : Int)) ((0, 0) : DNode))) 0).bind fun r =>
 some (r.1, r.2)
else none
else none
else none
else none := Eq.trans (inf_call_eq (H := H) 36 a) (by kernel_rfl)
theorem laws_toChange_eq (a : DChange) : laws_toChange a =
(laws_toNodeS a.2).bind fun r =>
 some (a.1, (r.1, r.2)) := Eq.trans (inf_call_eq (H := H) 115 a) (by kernel_rfl)
theorem laws_toChangeS_L0_eq (a : Bool × List DChange) (out : Bool × List DChange) (i : Int) : laws_toChangeS_L0 a out i =
 bif decide (i < (a.2.length : Int)) then
 bif decide (0 ≤ i) then
 bif decide (i < (a.2.length : Int)) then
(laws_toChange (a.2.getD (Int.toNat i) (0, (true, [])))).bind fun r =>
 bif decide (0 ≤ i) then
 bif decide (i < (out.2.length : Int)) then
(laws_toChangeS_L0 a (out.1, (out.2.set (Int.toNat i) (r.1, (r.2.1, r.2.2)))) (IntKind.i64.wrap (i + 1))).bind fun r => some r
else none
else none
else none
else none
else 
 some (out.1, out.2) := Eq.trans (inf_loop_eq (H := H) 93 0 (loopCode Tryz.f93 0) (a, (out, i)) key_laws_toChangeS) (by kernel_rfl)
theorem laws_toChangeS_eq (a : Bool × List DChange) : laws_toChangeS a =
 bif decide (0 ≤ (a.2.length : Int)) then
 bif decide ((a.2.length : Int) ≤ lim) then
 bif decide ((a.2.length : Int) ≤ (a.2.length : Int)) then
 bif decide ((a.2.length : Int) ≤ lim) then
(laws_toChangeS_L0 a (false, (List.replicate (Int.toNat (a.2.length : Int)) ((0, (true, [])) : DChange))) 0).bind fun r =>
 some (r.1, r.2)
else none
else none
else none
else none := Eq.trans (inf_call_eq (H := H) 93 a) (by kernel_rfl)
theorem laws_toCommand_eq (a : DCommand) : laws_toCommand a =
(laws_toNodeS a.1).bind fun r =>
(laws_toChangeS a.2).bind fun r1 =>
 some ((r.1, r.2), (r1.1, r1.2)) := Eq.trans (inf_call_eq (H := H) 69 a) (by kernel_rfl)
theorem laws_toCommandS_L0_eq (a : Bool × List DCommand) (out : Bool × List DCommand) (i : Int) : laws_toCommandS_L0 a out i =
 bif decide (i < (a.2.length : Int)) then
 bif decide (0 ≤ i) then
 bif decide (i < (a.2.length : Int)) then
(laws_toCommand (a.2.getD (Int.toNat i) ((true, []), (true, [])))).bind fun r =>
 bif decide (0 ≤ i) then
 bif decide (i < (out.2.length : Int)) then
(laws_toCommandS_L0 a (out.1, (out.2.set (Int.toNat i) ((r.1.1, r.1.2), (r.2.1, r.2.2)))) (IntKind.i64.wrap (i + 1))).bind fun r => some r
else none
else none
else none
else none
else 
 some (out.1, out.2) := Eq.trans (inf_loop_eq (H := H) 37 0 (loopCode Tryz.f37 0) (a, (out, i)) key_laws_toCommandS) (by kernel_rfl)
theorem laws_toCommandS_eq (a : Bool × List DCommand) : laws_toCommandS a =
 bif decide (0 ≤ (a.2.length : Int)) then
 bif decide ((a.2.length : Int) ≤ lim) then
 bif decide ((a.2.length : Int) ≤ (a.2.length : Int)) then
 bif decide ((a.2.length : Int) ≤ lim) then
(laws_toCommandS_L0 a (false, (List.replicate (Int.toNat (a.2.length : Int)) (((true, []), (true, [])) : DCommand))) 0).bind fun r =>
 some (r.1, r.2)
else none
else none
else none
else none := Eq.trans (inf_call_eq (H := H) 37 a) (by kernel_rfl)
theorem laws_toProgram_eq (a : DProgram) : laws_toProgram a =
(laws_toNodeS a.2.2.1).bind fun r =>
(laws_toCommandS a.2.2.2).bind fun r1 =>
 some (a.1, (a.2.1, ((r.1, r.2), (r1.1, r1.2)))) := Eq.trans (inf_call_eq (H := H) 10 a) (by kernel_rfl)
theorem laws_toIntS_L0_eq (a : Bool × List Int) (out : Bool × List Int) (i : Int) : laws_toIntS_L0 a out i =
 bif decide (i < (a.2.length : Int)) then
 bif decide (0 ≤ i) then
 bif decide (i < (a.2.length : Int)) then
 bif decide (0 ≤ i) then
 bif decide (i < (out.2.length : Int)) then
(laws_toIntS_L0 a (out.1, (out.2.set (Int.toNat i) (a.2.getD (Int.toNat i) 0))) (IntKind.i64.wrap (i + 1))).bind fun r => some r
else none
else none
else none
else none
else 
 some (out.1, out.2) := Eq.trans (inf_loop_eq (H := H) 21 0 (loopCode Tryz.f21 0) (a, (out, i)) key_laws_toIntS) (by kernel_rfl)
theorem laws_toIntS_eq (a : Bool × List Int) : laws_toIntS a =
 bif decide (0 ≤ (a.2.length : Int)) then
 bif decide ((a.2.length : Int) ≤ lim) then
 bif decide ((a.2.length : Int) ≤ (a.2.length : Int)) then
 bif decide ((a.2.length : Int) ≤ lim) then
(laws_toIntS_L0 a (false, (List.replicate (Int.toNat (a.2.length : Int)) (0 : Int))) 0).bind fun r =>
 some (r.1, r.2)
else none
else none
else none
else none := Eq.trans (inf_call_eq (H := H) 21 a) (by kernel_rfl)
theorem laws_toSight_eq (a : DSight) : laws_toSight a =
(laws_toIntS a).bind fun r =>
 some (r.1, r.2) := Eq.trans (inf_call_eq (H := H) 11 a) (by kernel_rfl)
theorem spec_l1In_eq (n : Int) (lo : Int) (hi : Int) : spec_l1In n lo hi =
 bif decide (n ≥ lo) then
 some (decide (n ≤ hi))
else 
 some false := Eq.trans (inf_call_eq (H := H) 46 (n, (lo, hi))) (by kernel_rfl)
theorem spec_l1Wide_eq (wide : Int) : spec_l1Wide wide =
(spec_l1In wide 1 64).bind fun r =>
 some r := Eq.trans (inf_call_eq (H := H) 141 wide) (by kernel_rfl)
theorem spec_l2Need_eq (op : Int) : spec_l2Need op =
 bif (op == 1) then
 some (0, (1, 1))
else 
 bif (op == 2) then
 some (0, (1, 1))
else 
 bif (op == 20) then
 some (0, (2, 2))
else 
 bif (op == 13) then
 some (1, (1, 1))
else 
 bif (op == 19) then
 some (1, (2, 2))
else 
(spec_l1In op 3 12).bind fun r =>
 bif r then
 some (2, (1, 1))
else 
(spec_l1In op 14 16).bind fun r1 =>
 bif r1 then
 some (2, (1, 2))
else 
 bif (op == 17) then
 some (2, (2, 2))
else 
 bif (op == 18) then
 some (2, (2, 2))
else 
 some (0, (0, 0)) := Eq.trans (inf_call_eq (H := H) 111 op) (by kernel_rfl)
theorem spec_l1Cut_L0_eq (wide : Int) (a : Int) (out : Int) (k_ : Int) : spec_l1Cut_L0 wide a out k_ =
 bif decide (k_ < wide) then
 bif decide ((IntKind.u64.wrap k_) < 0) then
 none
else 
(spec_l1Cut_L0 wide a (bOr .u64 out (bAnd .u64 a (bShl .u64 1 (IntKind.u64.wrap k_)))) (IntKind.i64.wrap (k_ + 1))).bind fun r => some r
else 
 some out := Eq.trans (inf_loop_eq (H := H) 112 0 (loopCode Tryz.f112 0) (wide, (a, (out, k_))) key_spec_l1Cut) (by kernel_rfl)
theorem spec_l1Cut_eq (wide : Int) (a : Int) : spec_l1Cut wide a =
(spec_l1Cut_L0 wide a 0 0).bind fun r =>
 some r := Eq.trans (inf_call_eq (H := H) 112 (wide, a)) (by kernel_rfl)
theorem spec_GoodWord_eq (wide : Int) (a : Int) : spec_GoodWord wide a =
(spec_l1Wide wide).bind fun r =>
 bif r then
(spec_l1Cut wide a).bind fun r1 =>
 some (r1 == a)
else 
 some false := Eq.trans (inf_call_eq (H := H) 154 (wide, a)) (by kernel_rfl)
theorem spec_l2N_eq (wide : Int) (vars : Int) (n : DNode) : spec_l2N wide vars n =
 bif (n.1 == 1) then
(spec_GoodWord wide n.2).bind fun r =>
 some r
else 
 bif (n.1 == 2) then
 some (decide (n.2 < (IntKind.u64.wrap vars)))
else 
 bif (n.1 == 20) then
 some (decide (n.2 < 2))
else 
 some (n.2 == 0) := Eq.trans (inf_call_eq (H := H) 142 (wide, (vars, n))) (by kernel_rfl)
theorem spec_l2Kind_L0_eq (wide : Int) (vars : Int) (pile : Bool × List Int) (t27 : Bool × List DNode) (t28 : Int) (t29 : Int) : spec_l2Kind_L0 wide vars pile t27 t28 t29 =
 bif decide (t29 < t28) then
 bif decide (0 ≤ t29) then
 bif decide (t29 < (t27.2.length : Int)) then
(spec_l2Need ((t27.2.getD (Int.toNat t29) (0, 0)).1)).bind fun r =>
 bif (r.2.2 == 0) then
 some (.inl 0)
else 
(spec_l2N wide vars (t27.2.getD (Int.toNat t29) (0, 0))).bind fun r1 =>
 bif !r1 then
 some (.inl 0)
else 
 bif decide ((pile.2.length : Int) < r.1) then
 some (.inl 0)
else 
(spec_l2Kind_L2 wide vars (pile.1, pile.2) r.1 r.2.1 r.2.2 t27 t28 t29).bind fun r2 =>
 match r2 with
| .inl y =>
 some (.inl y)
| .inr z =>
 bif decide (z.2.length + [r.2.2].length ≤ lim) then
(spec_l2Kind_L0 wide vars ((z.1 && false), (z.2 ++ [r.2.2])) t27 t28 (IntKind.i64.wrap (t29 + 1))).bind fun r => some r
else none
else none
else none
else 
 some (.inr (pile.1, pile.2)) := Eq.trans (inf_loop_eq (H := H) 118 0 (loopCode Tryz.f118 0) (wide, (vars, (pile, (t27, (t28, t29))))) key_spec_l2Kind) (by kernel_rfl)
theorem spec_l2Kind_L2_eq (wide : Int) (vars : Int) (pile : Bool × List Int) (many : Int) (part : Int) (own : Int) (t27 : Bool × List DNode) (t28 : Int) (t29 : Int) : spec_l2Kind_L2 wide vars pile many part own t27 t28 t29 =
 bif decide (many > 0) then
 bif decide (0 ≤ (IntKind.i64.wrap ((pile.2.length : Int) - 1))) then
 bif decide ((IntKind.i64.wrap ((pile.2.length : Int) - 1)) < (pile.2.length : Int)) then
 bif ((pile.2.getD (Int.toNat (IntKind.i64.wrap ((pile.2.length : Int) - 1))) 0) != part) then
 some (.inl 0)
else 
 bif decide (0 ≤ (IntKind.i64.wrap ((pile.2.length : Int) - 1))) then
 bif decide ((IntKind.i64.wrap ((pile.2.length : Int) - 1)) ≤ (pile.2.length : Int)) then
(spec_l2Kind_L2 wide vars (pile.1, ((pile.2.take (Int.toNat (IntKind.i64.wrap ((pile.2.length : Int) - 1)))).drop 0)) (IntKind.i64.wrap (many - 1)) part own t27 t28 t29).bind fun r => some r
else none
else none
else none
else none
else 
 some (.inr (pile.1, pile.2)) := Eq.trans (inf_loop_eq (H := H) 118 2 (loopCode Tryz.f118 2) (wide, (vars, (pile, (many, (part, (own, (t27, (t28, t29)))))))) key_spec_l2Kind) (by kernel_rfl)
theorem spec_l2Kind_eq (wide : Int) (vars : Int) (t : Bool × List DNode) : spec_l2Kind wide vars t =
(spec_l1Wide wide).bind fun r =>
 bif !r then
 some 0
else 
(spec_l1In vars 1 4).bind fun r1 =>
 bif !r1 then
 some 0
else 
(spec_l1In (t.2.length : Int) 1 48).bind fun r2 =>
 bif !r2 then
 some 0
else 
(spec_l2Kind_L0 wide vars (true, []) t (t.2.length : Int) 0).bind fun r3 =>
 match r3 with
| .inl y =>
 some y
| .inr z =>
 bif ((z.2.length : Int) != 1) then
 some 0
else 
 bif decide (0 < (z.2.length : Int)) then
 some (z.2.getD 0 0)
else none := Eq.trans (inf_call_eq (H := H) 118 (wide, (vars, t))) (by kernel_rfl)
theorem spec_l7Asks_eq (p : DProgram) (t : Bool × List DNode) : spec_l7Asks p t =
(spec_l2Kind p.1 p.2.1 t).bind fun r =>
 some (r == 2) := Eq.trans (inf_call_eq (H := H) 98 (p, t)) (by kernel_rfl)
theorem spec_l7Command_L0_eq (p : DProgram) (c : DCommand) (t21 : Bool × List DChange) (t22 : Int) (t23 : Int) : spec_l7Command_L0 p c t21 t22 t23 =
 bif decide (t23 < t22) then
 bif decide (0 ≤ t23) then
 bif decide (t23 < (t21.2.length : Int)) then
(spec_l1In ((t21.2.getD (Int.toNat t23) (0, (true, []))).1) 0 (IntKind.i64.wrap (p.2.1 - 1))).bind fun r =>
 bif !r then
 some (.inl false)
else 
 bif decide (t23 > 0) then
 bif decide (0 ≤ (IntKind.i64.wrap (t23 - 1))) then
 bif decide ((IntKind.i64.wrap (t23 - 1)) < (c.2.2.length : Int)) then
 bif decide (((c.2.2.getD (Int.toNat (IntKind.i64.wrap (t23 - 1))) (0, (true, []))).1) ≥ ((t21.2.getD (Int.toNat t23) (0, (true, []))).1)) then
 some (.inl false)
else 
(spec_l2Kind p.1 p.2.1 ((t21.2.getD (Int.toNat t23) (0, (true, []))).2)).bind fun r1 =>
 bif (r1 != 1) then
 some (.inl false)
else 
(spec_l7Command_L0 p c t21 t22 (IntKind.i64.wrap (t23 + 1))).bind fun r => some r
else none
else none
else 
(spec_l2Kind p.1 p.2.1 ((t21.2.getD (Int.toNat t23) (0, (true, []))).2)).bind fun r2 =>
 bif (r2 != 1) then
 some (.inl false)
else 
(spec_l7Command_L0 p c t21 t22 (IntKind.i64.wrap (t23 + 1))).bind fun r => some r
else none
else none
else 
 some (.inr ()) := Eq.trans (inf_loop_eq (H := H) 99 0 (loopCode Tryz.f99 0) (p, (c, (t21, (t22, t23)))) key_spec_l7Command) (by kernel_rfl)
theorem spec_l7Command_eq (p : DProgram) (c : DCommand) : spec_l7Command p c =
(spec_l7Asks p c.1).bind fun r =>
 bif !r then
 some false
else 
 bif decide ((c.2.2.length : Int) > p.2.1) then
 some false
else 
(spec_l7Command_L0 p c c.2 (c.2.2.length : Int) 0).bind fun r1 =>
 match r1 with
| .inl y =>
 some y
| .inr z =>
 some true := Eq.trans (inf_call_eq (H := H) 99 (p, c)) (by kernel_rfl)
theorem spec_GoodProgram_L0_eq (p : DProgram) (t18 : Bool × List DCommand) (t19 : Int) (t20 : Int) : spec_GoodProgram_L0 p t18 t19 t20 =
 bif decide (t20 < t19) then
 bif decide (0 ≤ t20) then
 bif decide (t20 < (t18.2.length : Int)) then
(spec_l7Command p (t18.2.getD (Int.toNat t20) ((true, []), (true, [])))).bind fun r =>
 bif !r then
 some (.inl false)
else 
(spec_GoodProgram_L0 p t18 t19 (IntKind.i64.wrap (t20 + 1))).bind fun r => some r
else none
else none
else 
 some (.inr ()) := Eq.trans (inf_loop_eq (H := H) 78 0 (loopCode Tryz.f78 0) (p, (t18, (t19, t20))) key_spec_GoodProgram) (by kernel_rfl)
theorem spec_GoodProgram_eq (p : DProgram) : spec_GoodProgram p =
(spec_l7Asks p p.2.2.1).bind fun r =>
 bif !r then
 some false
else 
(spec_l1In (p.2.2.2.2.length : Int) 1 6).bind fun r1 =>
 bif !r1 then
 some false
else 
(spec_GoodProgram_L0 p p.2.2.2 (p.2.2.2.2.length : Int) 0).bind fun r2 =>
 match r2 with
| .inl y =>
 some y
| .inr z =>
 some true := Eq.trans (inf_call_eq (H := H) 78 p) (by kernel_rfl)
theorem spec_l7Small_eq (p : DProgram) : spec_l7Small p =
(spec_GoodProgram p).bind fun r =>
 bif r then
 some (decide ((IntKind.i64.wrap (p.1 * p.2.1)) ≤ 5))
else 
 some false := Eq.trans (inf_call_eq (H := H) 45 p) (by kernel_rfl)
theorem spec_l7Many_eq (p : DProgram) : spec_l7Many p =
 bif decide ((IntKind.u64.wrap (IntKind.i64.wrap (p.1 * p.2.1))) < 0) then
 none
else 
 some (bShl .i64 1 (IntKind.u64.wrap (IntKind.i64.wrap (p.1 * p.2.1)))) := Eq.trans (inf_call_eq (H := H) 48 p) (by kernel_rfl)
theorem spec_GoodSight_L0_eq (many : Int) (t20 : Bool × List Int) (t21 : Int) (t22 : Int) : spec_GoodSight_L0 many t20 t21 t22 =
 bif decide (t22 < t21) then
 bif decide (0 ≤ t22) then
 bif decide (t22 < (t20.2.length : Int)) then
(spec_l1In (t20.2.getD (Int.toNat t22) 0) 0 many).bind fun r =>
 bif !r then
 some (.inl false)
else 
 bif ((t20.2.getD (Int.toNat t22) 0) == many) then
(spec_GoodSight_L0 (IntKind.i64.wrap (many + 1)) t20 t21 (IntKind.i64.wrap (t22 + 1))).bind fun r => some r
else 
(spec_GoodSight_L0 many t20 t21 (IntKind.i64.wrap (t22 + 1))).bind fun r => some r
else none
else none
else 
 some (.inr ()) := Eq.trans (inf_loop_eq (H := H) 33 0 (loopCode Tryz.f33 0) (many, (t20, (t21, t22))) key_spec_GoodSight) (by kernel_rfl)
theorem spec_GoodSight_eq (p : DProgram) (v : DSight) : spec_GoodSight p v =
(spec_l7Small p).bind fun r =>
 bif !r then
 some false
else 
(spec_l7Many p).bind fun r1 =>
 bif ((v.2.length : Int) != r1) then
 some false
else 
(spec_GoodSight_L0 0 v (v.2.length : Int) 0).bind fun r2 =>
 match r2 with
| .inl y =>
 some y
| .inr z =>
 some true := Eq.trans (inf_call_eq (H := H) 33 (p, v)) (by kernel_rfl)
theorem spec_l7Of_L0_eq (no : Int) (p : DProgram) (out : Bool × List Int) (v : Int) : spec_l7Of_L0 no p out v =
 bif decide (v < p.2.1) then
 bif decide ((IntKind.u64.wrap (IntKind.i64.wrap (v * p.1))) < 0) then
 none
else 
 bif decide ((IntKind.u64.wrap p.1) < 0) then
 none
else 
 bif decide (out.2.length + [IntKind.u64.wrap (bAnd .i64 (bShr .i64 no (IntKind.u64.wrap (IntKind.i64.wrap (v * p.1)))) (IntKind.i64.wrap ((bShl .i64 1 (IntKind.u64.wrap p.1)) - 1)))].length ≤ lim) then
(spec_l7Of_L0 no p ((out.1 && false), (out.2 ++ [IntKind.u64.wrap (bAnd .i64 (bShr .i64 no (IntKind.u64.wrap (IntKind.i64.wrap (v * p.1)))) (IntKind.i64.wrap ((bShl .i64 1 (IntKind.u64.wrap p.1)) - 1)))])) (IntKind.i64.wrap (v + 1))).bind fun r => some r
else none
else 
 some (out.1, out.2) := Eq.trans (inf_loop_eq (H := H) 67 0 (loopCode Tryz.f67 0) (no, (p, (out, v))) key_spec_l7Of) (by kernel_rfl)
theorem spec_l7Of_eq (p : DProgram) (no : Int) : spec_l7Of p no =
(spec_l7Of_L0 no p (true, []) 0).bind fun r =>
 some (r.1, r.2) := Eq.trans (inf_call_eq (H := H) 67 (p, no)) (by kernel_rfl)
theorem spec_l2From_L0_eq (t : Bool × List DNode) (many : Int) (from_ : Int) : spec_l2From_L0 t many from_ =
 bif decide (many > 0) then
(spec_l2From t (IntKind.i64.wrap (from_ - 1))).bind fun r =>
(spec_l2From_L0 t (IntKind.i64.wrap (many - 1)) r).bind fun r => some r
else 
 some from_ := Eq.trans (inf_loop_eq (H := H) 114 0 (loopCode Tryz.f114 0) (t, (many, from_)) key_spec_l2From) (by kernel_rfl)
theorem spec_l2From_eq (t : Bool × List DNode) (k_ : Int) : spec_l2From t k_ =
 bif decide (0 ≤ k_) then
 bif decide (k_ < (t.2.length : Int)) then
(spec_l2Need ((t.2.getD (Int.toNat k_) (0, 0)).1)).bind fun r =>
(spec_l2From_L0 t r.1 k_).bind fun r1 =>
 some r1
else none
else none := Eq.trans (inf_call_eq (H := H) 114 (t, k_)) (by kernel_rfl)
theorem spec_l1Both_eq (wide : Int) (a : Int) (b : Int) : spec_l1Both wide a b =
(spec_GoodWord wide a).bind fun r =>
 bif r then
(spec_GoodWord wide b).bind fun r1 =>
 some r1
else 
 some false := Eq.trans (inf_call_eq (H := H) 151 (wide, (a, b))) (by kernel_rfl)
theorem spec_DivWord_eq (wide : Int) (a : Int) (b : Int) : spec_DivWord wide a b =
(spec_l1Both wide a b).bind fun r =>
 bif !r then
 some (0, (0, false))
else 
 bif (b == 0) then
(spec_l1Cut wide 18446744073709551615).bind fun r1 =>
 some (r1, (a, true))
else 
 bif (b == 0) then
 none
else 
 bif (b == 0) then
 none
else 
 some (IntKind.u64.wrap (Int.tdiv a b), (Int.tmod a b, true)) := Eq.trans (inf_call_eq (H := H) 133 (wide, (a, b))) (by kernel_rfl)
theorem spec_l1Shift_L0_eq (wide : Int) (a : Int) (by_ : Int) (left_ : Bool) : spec_l1Shift_L0 wide a by_ left_ =
 bif decide (by_ > 0) then
 bif left_ then
(spec_l1Cut wide (bShl .u64 a 1)).bind fun r =>
(spec_l1Shift_L0 wide r (IntKind.u64.wrap (by_ - 1)) left_).bind fun r => some r
else 
(spec_l1Shift_L0 wide (bShr .u64 a 1) (IntKind.u64.wrap (by_ - 1)) left_).bind fun r => some r
else 
 some a := Eq.trans (inf_loop_eq (H := H) 134 0 (loopCode Tryz.f134 0) (wide, (a, (by_, left_))) key_spec_l1Shift) (by kernel_rfl)
theorem spec_l1Shift_eq (wide : Int) (a : Int) (by_ : Int) (left_ : Bool) : spec_l1Shift wide a by_ left_ =
 bif decide (by_ ≥ (IntKind.u64.wrap wide)) then
 some 0
else 
(spec_l1Shift_L0 wide a by_ left_).bind fun r =>
 some r := Eq.trans (inf_call_eq (H := H) 134 (wide, (a, (by_, left_)))) (by kernel_rfl)
theorem spec_l2Bool_eq (is : Bool) : spec_l2Bool is =
 bif is then
 some 1
else 
 some 0 := Eq.trans (inf_call_eq (H := H) 135 is) (by kernel_rfl)
theorem spec_l1Signed_eq (wide : Int) (a : Int) : spec_l1Signed wide a =
 bif decide ((IntKind.u64.wrap (IntKind.i64.wrap (wide - 1))) < 0) then
 none
else 
 bif ((bAnd .u64 (bShr .u64 a (IntKind.u64.wrap (IntKind.i64.wrap (wide - 1)))) 1) == 1) then
(spec_l1Cut wide 18446744073709551615).bind fun r =>
 some (IntKind.i64.wrap (bOr .u64 a (bXor .u64 18446744073709551615 r)))
else 
 some (IntKind.i64.wrap a) := Eq.trans (inf_call_eq (H := H) 136 (wide, a)) (by kernel_rfl)
theorem spec_l2Do_eq (wide : Int) (op : Int) (a : Int) (b : Int) : spec_l2Do wide op a b =
(spec_DivWord wide a b).bind fun r =>
 bif (op == 3) then
(spec_l1Cut wide (IntKind.u64.wrap (a + b))).bind fun r1 =>
 some r1
else 
 bif (op == 4) then
(spec_l1Cut wide (IntKind.u64.wrap (a - b))).bind fun r2 =>
 some r2
else 
 bif (op == 5) then
(spec_l1Cut wide (IntKind.u64.wrap (a * b))).bind fun r3 =>
 some r3
else 
 bif (op == 6) then
 some r.1
else 
 bif (op == 7) then
 some r.2.1
else 
 bif (op == 8) then
 bif (op == 8) then
 some (bAnd .u64 a b)
else 
 bif (op == 9) then
 bif (op == 9) then
 some (bOr .u64 a b)
else 
 bif (op == 10) then
 some (bXor .u64 a b)
else 
 bif (op == 11) then
(spec_l1Shift wide a b true).bind fun r4 =>
 some r4
else 
 bif (op == 12) then
(spec_l1Shift wide a b false).bind fun r5 =>
 some r5
else 
 bif (op == 14) then
(spec_l2Bool (a == b)).bind fun r6 =>
 some r6
else 
 bif (op == 15) then
(spec_l2Bool (decide (a < b))).bind fun r7 =>
 some r7
else 
 bif (op == 16) then
(spec_l1Signed wide a).bind fun r8 =>
(spec_l1Signed wide b).bind fun r9 =>
(spec_l2Bool (decide (r8 < r9))).bind fun r10 =>
 some r10
else 
 some 0
else 
 bif (op == 18) then
 some (bOr .u64 a b)
else 
 bif (op == 10) then
 some (bXor .u64 a b)
else 
 bif (op == 11) then
(spec_l1Shift wide a b true).bind fun r11 =>
 some r11
else 
 bif (op == 12) then
(spec_l1Shift wide a b false).bind fun r12 =>
 some r12
else 
 bif (op == 14) then
(spec_l2Bool (a == b)).bind fun r13 =>
 some r13
else 
 bif (op == 15) then
(spec_l2Bool (decide (a < b))).bind fun r14 =>
 some r14
else 
 bif (op == 16) then
(spec_l1Signed wide a).bind fun r15 =>
(spec_l1Signed wide b).bind fun r16 =>
(spec_l2Bool (decide (r15 < r16))).bind fun r17 =>
 some r17
else 
 some 0
else 
 bif (op == 17) then
 some (bAnd .u64 a b)
else 
 bif (op == 9) then
 bif (op == 9) then
 some (bOr .u64 a b)
else 
 bif (op == 10) then
 some (bXor .u64 a b)
else 
 bif (op == 11) then
(spec_l1Shift wide a b true).bind fun r18 =>
 some r18
else 
 bif (op == 12) then
(spec_l1Shift wide a b false).bind fun r19 =>
 some r19
else 
 bif (op == 14) then
(spec_l2Bool (a == b)).bind fun r20 =>
 some r20
else 
 bif (op == 15) then
(spec_l2Bool (decide (a < b))).bind fun r21 =>
 some r21
else 
 bif (op == 16) then
(spec_l1Signed wide a).bind fun r22 =>
(spec_l1Signed wide b).bind fun r23 =>
(spec_l2Bool (decide (r22 < r23))).bind fun r24 =>
 some r24
else 
 some 0
else 
 bif (op == 18) then
 some (bOr .u64 a b)
else 
 bif (op == 10) then
 some (bXor .u64 a b)
else 
 bif (op == 11) then
(spec_l1Shift wide a b true).bind fun r25 =>
 some r25
else 
 bif (op == 12) then
(spec_l1Shift wide a b false).bind fun r26 =>
 some r26
else 
 bif (op == 14) then
(spec_l2Bool (a == b)).bind fun r27 =>
 some r27
else 
 bif (op == 15) then
(spec_l2Bool (decide (a < b))).bind fun r28 =>
 some r28
else 
 bif (op == 16) then
(spec_l1Signed wide a).bind fun r29 =>
(spec_l1Signed wide b).bind fun r30 =>
(spec_l2Bool (decide (r29 < r30))).bind fun r31 =>
 some r31
else 
 some 0 := Eq.trans (inf_call_eq (H := H) 113 (wide, (op, (a, b)))) (by kernel_rfl)
theorem spec_l2Value_eq (wide : Int) (t : Bool × List DNode) (k_ : Int) (state : Bool × List Int) : spec_l2Value wide t k_ state =
 bif decide (0 ≤ k_) then
 bif decide (k_ < (t.2.length : Int)) then
(spec_l2Need ((t.2.getD (Int.toNat k_) (0, 0)).1)).bind fun r =>
 bif (((t.2.getD (Int.toNat k_) (0, 0)).1) == 2) then
 bif decide (0 ≤ ((t.2.getD (Int.toNat k_) (0, 0)).2)) then
 bif decide (((t.2.getD (Int.toNat k_) (0, 0)).2) < (state.2.length : Int)) then
 some (state.2.getD (Int.toNat ((t.2.getD (Int.toNat k_) (0, 0)).2)) 0)
else none
else none
else 
 bif (r.1 == 0) then
 some ((t.2.getD (Int.toNat k_) (0, 0)).2)
else 
 bif (((t.2.getD (Int.toNat k_) (0, 0)).1) == 13) then
(spec_l2Value wide t (IntKind.i64.wrap (k_ - 1)) state).bind fun r1 =>
(spec_l1Cut wide (bXor .u64 18446744073709551615 r1)).bind fun r2 =>
 some r2
else 
 bif (((t.2.getD (Int.toNat k_) (0, 0)).1) == 19) then
(spec_l2Value wide t (IntKind.i64.wrap (k_ - 1)) state).bind fun r3 =>
 some (IntKind.u64.wrap (1 - r3))
else 
(spec_l2From t (IntKind.i64.wrap (k_ - 1))).bind fun r4 =>
(spec_l2Value wide t (IntKind.i64.wrap (r4 - 1)) state).bind fun r5 =>
(spec_l2Value wide t (IntKind.i64.wrap (k_ - 1)) state).bind fun r6 =>
(spec_l2Do wide ((t.2.getD (Int.toNat k_) (0, 0)).1) r5 r6).bind fun r7 =>
 some r7
else none
else none := Eq.trans (inf_call_eq (H := H) 92 (wide, (t, (k_, state)))) (by kernel_rfl)
theorem spec_l7Holds_eq (p : DProgram) (t : Bool × List DNode) (s : Bool × List Int) : spec_l7Holds p t s =
(spec_l2Value p.1 t (IntKind.i64.wrap ((t.2.length : Int) - 1)) s).bind fun r =>
 some (r == 1) := Eq.trans (inf_call_eq (H := H) 66 (p, (t, s))) (by kernel_rfl)
theorem spec_l8Those_L0_eq (t : Bool × List DNode) (p : DProgram) (out : Bool × List Int) (no : Int) : spec_l8Those_L0 t p out no =
(spec_l7Many p).bind fun r =>
 bif decide (no < r) then
(spec_l7Of p no).bind fun r1 =>
(spec_l7Holds p t (r1.1, r1.2)).bind fun r2 =>
 bif r2 then
 bif decide (out.2.length + [no].length ≤ lim) then
(spec_l8Those_L0 t p ((out.1 && false), (out.2 ++ [no])) (IntKind.i64.wrap (no + 1))).bind fun r => some r
else none
else 
(spec_l8Those_L0 t p (out.1, out.2) (IntKind.i64.wrap (no + 1))).bind fun r => some r
else 
 some (out.1, out.2) := Eq.trans (inf_loop_eq (H := H) 35 0 (loopCode Tryz.f35 0) (t, (p, (out, no))) key_spec_l8Those) (by kernel_rfl)
theorem spec_l8Those_eq (p : DProgram) (t : Bool × List DNode) : spec_l8Those p t =
(spec_l8Those_L0 t p (true, []) 0).bind fun r =>
 some (r.1, r.2) := Eq.trans (inf_call_eq (H := H) 35 (p, t)) (by kernel_rfl)
theorem spec_l1Put_L0_eq (l : Bool × List Int) (n : Int) (k_ : Int) : spec_l1Put_L0 l n k_ =
 bif decide (k_ < (l.2.length : Int)) then
 bif decide (0 ≤ k_) then
 bif decide (k_ < (l.2.length : Int)) then
 bif decide ((l.2.getD (Int.toNat k_) 0) < n) then
(spec_l1Put_L0 l n (IntKind.i64.wrap (k_ + 1))).bind fun r => some r
else 
 some k_
else none
else none
else 
 some k_ := Eq.trans (inf_loop_eq (H := H) 65 0 (loopCode Tryz.f65 0) (l, (n, k_)) key_spec_l1Put) (by kernel_rfl)
theorem spec_l1Put_eq (l : Bool × List Int) (n : Int) : spec_l1Put l n =
(spec_l1Put_L0 l n 0).bind fun r =>
 bif decide (r < (l.2.length : Int)) then
 bif decide (0 ≤ r) then
 bif decide (r < (l.2.length : Int)) then
 bif ((l.2.getD (Int.toNat r) 0) == n) then
 some l
else 
 bif decide (0 ≤ r) then
 bif decide (r ≤ (l.2.length : Int)) then
 bif decide (([] : List Int).length + ((l.2.take (Int.toNat r)).drop 0).length ≤ lim) then
 bif decide (([] ++ ((l.2.take (Int.toNat r)).drop 0)).length + [n].length ≤ lim) then
 bif decide (0 ≤ r) then
 bif decide (r ≤ (l.2.length : Int)) then
 bif decide ((([] ++ ((l.2.take (Int.toNat r)).drop 0)) ++ [n]).length + ((l.2.take l.2.length).drop (Int.toNat r)).length ≤ lim) then
 some (false, ((([] ++ ((l.2.take (Int.toNat r)).drop 0)) ++ [n]) ++ ((l.2.take l.2.length).drop (Int.toNat r))))
else none
else none
else none
else none
else none
else none
else none
else none
else none
else 
 bif decide (0 ≤ r) then
 bif decide (r ≤ (l.2.length : Int)) then
 bif decide (([] : List Int).length + ((l.2.take (Int.toNat r)).drop 0).length ≤ lim) then
 bif decide (([] ++ ((l.2.take (Int.toNat r)).drop 0)).length + [n].length ≤ lim) then
 bif decide (0 ≤ r) then
 bif decide (r ≤ (l.2.length : Int)) then
 bif decide ((([] ++ ((l.2.take (Int.toNat r)).drop 0)) ++ [n]).length + ((l.2.take l.2.length).drop (Int.toNat r)).length ≤ lim) then
 some (false, ((([] ++ ((l.2.take (Int.toNat r)).drop 0)) ++ [n]) ++ ((l.2.take l.2.length).drop (Int.toNat r))))
else none
else none
else none
else none
else none
else none
else none := Eq.trans (inf_call_eq (H := H) 65 (l, n)) (by kernel_rfl)
theorem spec_l17Classes_L0_eq (v : DSight) (out : Bool × List Int) (t8 : Bool × List Int) (t9 : Int) (t10 : Int) : spec_l17Classes_L0 v out t8 t9 t10 =
 bif decide (t10 < t9) then
 bif decide (0 ≤ t10) then
 bif decide (t10 < (t8.2.length : Int)) then
 bif decide (0 ≤ (t8.2.getD (Int.toNat t10) 0)) then
 bif decide ((t8.2.getD (Int.toNat t10) 0) < (v.2.length : Int)) then
(spec_l1Put out (v.2.getD (Int.toNat (t8.2.getD (Int.toNat t10) 0)) 0)).bind fun r =>
(spec_l17Classes_L0 v r t8 t9 (IntKind.i64.wrap (t10 + 1))).bind fun r => some r
else none
else none
else none
else none
else 
 some out := Eq.trans (inf_loop_eq (H := H) 34 0 (loopCode Tryz.f34 0) (v, (out, (t8, (t9, t10)))) key_spec_l17Classes) (by kernel_rfl)
theorem spec_l17Classes_eq (v : DSight) (states : Bool × List Int) : spec_l17Classes v states =
(spec_l17Classes_L0 v (true, []) states (states.2.length : Int) 0).bind fun r =>
 some r := Eq.trans (inf_call_eq (H := H) 34 (v, states)) (by kernel_rfl)
theorem spec_ClassStarts_eq (p : DProgram) (v : DSight) : spec_ClassStarts p v =
(spec_GoodSight p v).bind fun r =>
 bif !r then
 some ((true, []), false)
else 
(spec_l8Those p p.2.2.1).bind fun r1 =>
(spec_l17Classes v (r1.1, r1.2)).bind fun r2 =>
 some (r2, true) := Eq.trans (inf_call_eq (H := H) 9 (p, v)) (by kernel_rfl)
theorem impl_isWide_eq (n : Int) : impl_isWide n =
 bif decide (n ≥ 1) then
 some (decide (n ≤ 64))
else 
 some false := Eq.trans (inf_call_eq (H := H) 100 n) (by kernel_rfl)
theorem impl_isVars_eq (n : Int) : impl_isVars n =
 bif decide (n ≥ 1) then
 some (decide (n ≤ 4))
else 
 some false := Eq.trans (inf_call_eq (H := H) 101 n) (by kernel_rfl)
theorem impl_operandsOf_eq (op : Int) : impl_operandsOf op =
 bif (op == 1) then
 some (0, (0, 1))
else 
 bif (op == 2) then
 some (0, (0, 1))
else 
 bif (op == 20) then
 some (0, (0, 2))
else 
 bif (op == 13) then
 some (1, (1, 1))
else 
 bif (op == 19) then
 some (1, (2, 2))
else 
 bif decide (op ≥ 3) then
 bif decide (op ≤ 12) then
 some (2, (1, 1))
else 
 bif decide (op ≥ 14) then
 bif decide (op ≤ 16) then
 some (2, (1, 2))
else 
 bif (op == 17) then
 some (2, (2, 2))
else 
 bif (op == 18) then
 some (2, (2, 2))
else 
 some (0, (0, 0))
else 
 bif (op == 17) then
 some (2, (2, 2))
else 
 bif (op == 18) then
 some (2, (2, 2))
else 
 some (0, (0, 0))
else 
 bif decide (op ≥ 14) then
 bif decide (op ≤ 16) then
 some (2, (1, 2))
else 
 bif (op == 17) then
 some (2, (2, 2))
else 
 bif (op == 18) then
 some (2, (2, 2))
else 
 some (0, (0, 0))
else 
 bif (op == 17) then
 some (2, (2, 2))
else 
 bif (op == 18) then
 some (2, (2, 2))
else 
 some (0, (0, 0)) := Eq.trans (inf_call_eq (H := H) 155 op) (by kernel_rfl)
theorem impl_mask_eq (wide : Int) : impl_mask wide =
 bif decide ((IntKind.i64.wrap (64 - wide)) < 0) then
 none
else 
 some (bShr .u64 18446744073709551615 (IntKind.i64.wrap (64 - wide))) := Eq.trans (inf_call_eq (H := H) 96 wide) (by kernel_rfl)
theorem impl_GoodWord_eq (wide : Int) (a : Int) : impl_GoodWord wide a =
(impl_isWide wide).bind fun r =>
 bif r then
(impl_mask wide).bind fun r1 =>
 some (decide (a ≤ r1))
else 
 some false := Eq.trans (inf_call_eq (H := H) 160 (wide, a)) (by kernel_rfl)
theorem impl_isLeafRight_eq (wide : Int) (vars : Int) (x : DNode) : impl_isLeafRight wide vars x =
 bif (x.1 == 1) then
(impl_GoodWord wide x.2).bind fun r =>
 some r
else 
 bif (x.1 == 2) then
 some (decide (x.2 < (IntKind.u64.wrap vars)))
else 
 bif (x.1 == 20) then
 some (decide (x.2 ≤ 1))
else 
 some (x.2 == 0) := Eq.trans (inf_call_eq (H := H) 156 (wide, (vars, x))) (by kernel_rfl)
theorem impl_GoodTerm_1_eq (own : Int) (a1 : Int) : impl_GoodTerm_1 own a1 =
 some (own != a1) := Eq.trans (inf_call_eq (H := H) 158 (own, a1)) (by kernel_rfl)
theorem slices_IndexFunc_int_by_GoodTerm_1_L0_eq (s : Bool × List Int) (f : Int × Unit) (t7 : Int) (t8 : Int) : slices_IndexFunc_int_by_GoodTerm_1_L0 s f t7 t8 =
 bif decide (t8 < t7) then
 bif decide (0 ≤ t8) then
 bif decide (t8 < (s.2.length : Int)) then
(impl_GoodTerm_1 (s.2.getD (Int.toNat t8) 0) f.1).bind fun r =>
 bif r then
 some (.inl t8)
else 
(slices_IndexFunc_int_by_GoodTerm_1_L0 s f t7 (IntKind.i64.wrap (t8 + 1))).bind fun r => some r
else none
else none
else 
 some (.inr ()) := Eq.trans (inf_loop_eq (H := H) 162 0 (loopCode Tryz.f162 0) (s, (f, (t7, t8))) key_slices_IndexFunc_int_by_GoodTerm_1) (by kernel_rfl)
theorem slices_IndexFunc_int_by_GoodTerm_1_eq (s : Bool × List Int) (f : Int × Unit) : slices_IndexFunc_int_by_GoodTerm_1 s f =
(slices_IndexFunc_int_by_GoodTerm_1_L0 s f (s.2.length : Int) 0).bind fun r =>
 match r with
| .inl y =>
 some y
| .inr z =>
 some (-1) := Eq.trans (inf_call_eq (H := H) 162 (s, f)) (by kernel_rfl)
theorem slices_ContainsFunc_int_by_GoodTerm_1_eq (s : Bool × List Int) (f : Int × Unit) : slices_ContainsFunc_int_by_GoodTerm_1 s f =
(slices_IndexFunc_int_by_GoodTerm_1 s f).bind fun r =>
 some (decide (r ≥ 0)) := Eq.trans (inf_call_eq (H := H) 157 (s, f)) (by kernel_rfl)
theorem impl_GoodTerm_L0_eq (wide : Int) (vars : Int) (stack : Bool × List Int) (t33 : Bool × List DNode) (t34 : Int) (t35 : Int) : impl_GoodTerm_L0 wide vars stack t33 t34 t35 =
 bif decide (t35 < t34) then
 bif decide (0 ≤ t35) then
 bif decide (t35 < (t33.2.length : Int)) then
(impl_operandsOf ((t33.2.getD (Int.toNat t35) (0, 0)).1)).bind fun r =>
 bif (r.2.2 == 0) then
 some (.inl false)
else 
(impl_isLeafRight wide vars (t33.2.getD (Int.toNat t35) (0, 0))).bind fun r1 =>
 bif !r1 then
 some (.inl false)
else 
 bif decide ((IntKind.i64.wrap ((stack.2.length : Int) - r.1)) < 0) then
 some (.inl false)
else 
 bif decide (0 ≤ (IntKind.i64.wrap ((stack.2.length : Int) - r.1))) then
 bif decide ((IntKind.i64.wrap ((stack.2.length : Int) - r.1)) ≤ (stack.2.length : Int)) then
(slices_ContainsFunc_int_by_GoodTerm_1 (stack.1, ((stack.2.take stack.2.length).drop (Int.toNat (IntKind.i64.wrap ((stack.2.length : Int) - r.1))))) (r.2.1, ())).bind fun r2 =>
 bif r2 then
 some (.inl false)
else 
 bif decide (0 ≤ (IntKind.i64.wrap ((stack.2.length : Int) - r.1))) then
 bif decide ((IntKind.i64.wrap ((stack.2.length : Int) - r.1)) ≤ (stack.2.length : Int)) then
 bif decide (((stack.2.take (Int.toNat (IntKind.i64.wrap ((stack.2.length : Int) - r.1)))).drop 0).length + [r.2.2].length ≤ lim) then
(impl_GoodTerm_L0 wide vars ((stack.1 && false), (((stack.2.take (Int.toNat (IntKind.i64.wrap ((stack.2.length : Int) - r.1)))).drop 0) ++ [r.2.2])) t33 t34 (IntKind.i64.wrap (t35 + 1))).bind fun r => some r
else none
else none
else none
else none
else none
else none
else none
else 
 some (.inr (stack.1, stack.2)) := Eq.trans (inf_loop_eq (H := H) 143 0 (loopCode Tryz.f143 0) (wide, (vars, (stack, (t33, (t34, t35))))) key_impl_GoodTerm) (by kernel_rfl)
theorem impl_GoodTerm_eq (wide : Int) (vars : Int) (t : Bool × List DNode) : impl_GoodTerm wide vars t =
(impl_isWide wide).bind fun r =>
 bif !r then
 some false
else 
(impl_isVars vars).bind fun r1 =>
 bif !r1 then
 some false
else 
 bif decide ((t.2.length : Int) < 1) then
 some false
else 
 bif decide ((t.2.length : Int) > 48) then
 some false
else 
(impl_GoodTerm_L0 wide vars (false, []) t (t.2.length : Int) 0).bind fun r2 =>
 match r2 with
| .inl y =>
 some y
| .inr z =>
 some ((z.2.length : Int) == 1) := Eq.trans (inf_call_eq (H := H) 143 (wide, (vars, t))) (by kernel_rfl)
theorem impl_kindOf_eq (t : Bool × List DNode) : impl_kindOf t =
 bif decide (0 ≤ (IntKind.i64.wrap ((t.2.length : Int) - 1))) then
 bif decide ((IntKind.i64.wrap ((t.2.length : Int) - 1)) < (t.2.length : Int)) then
(impl_operandsOf ((t.2.getD (Int.toNat (IntKind.i64.wrap ((t.2.length : Int) - 1))) (0, 0)).1)).bind fun r =>
 some r.2.2
else none
else none := Eq.trans (inf_call_eq (H := H) 144 t) (by kernel_rfl)
theorem impl_isTermOf_eq (wide : Int) (vars : Int) (t : Bool × List DNode) (kind : Int) : impl_isTermOf wide vars t kind =
(impl_GoodTerm wide vars t).bind fun r =>
 bif r then
(impl_kindOf t).bind fun r1 =>
 some (r1 == kind)
else 
 some false := Eq.trans (inf_call_eq (H := H) 119 (wide, (vars, (t, kind)))) (by kernel_rfl)
theorem impl_Program_isCondition_eq (p : DProgram) (t : Bool × List DNode) : impl_Program_isCondition p t =
(impl_isTermOf p.1 p.2.1 t 2).bind fun r =>
 some r := Eq.trans (inf_call_eq (H := H) 102 (p, t)) (by kernel_rfl)
theorem impl_Program_isCommand_L0_eq (p : DProgram) (c : DCommand) (t13 : Bool × List DChange) (t14 : Int) (t15 : Int) : impl_Program_isCommand_L0 p c t13 t14 t15 =
 bif decide (t15 < t14) then
 bif decide (0 ≤ t15) then
 bif decide (t15 < (t13.2.length : Int)) then
 bif decide (((t13.2.getD (Int.toNat t15) (0, (true, []))).1) < 0) then
 some (.inl false)
else 
 bif decide (((t13.2.getD (Int.toNat t15) (0, (true, []))).1) ≥ p.2.1) then
 some (.inl false)
else 
 bif decide (t15 > 0) then
 bif decide (0 ≤ (IntKind.i64.wrap (t15 - 1))) then
 bif decide ((IntKind.i64.wrap (t15 - 1)) < (c.2.2.length : Int)) then
 bif decide (((c.2.2.getD (Int.toNat (IntKind.i64.wrap (t15 - 1))) (0, (true, []))).1) ≥ ((t13.2.getD (Int.toNat t15) (0, (true, []))).1)) then
 some (.inl false)
else 
(impl_isTermOf p.1 p.2.1 ((t13.2.getD (Int.toNat t15) (0, (true, []))).2) 1).bind fun r =>
 bif !r then
 some (.inl false)
else 
(impl_Program_isCommand_L0 p c t13 t14 (IntKind.i64.wrap (t15 + 1))).bind fun r => some r
else none
else none
else 
(impl_isTermOf p.1 p.2.1 ((t13.2.getD (Int.toNat t15) (0, (true, []))).2) 1).bind fun r1 =>
 bif !r1 then
 some (.inl false)
else 
(impl_Program_isCommand_L0 p c t13 t14 (IntKind.i64.wrap (t15 + 1))).bind fun r => some r
else none
else none
else 
 some (.inr ()) := Eq.trans (inf_loop_eq (H := H) 105 0 (loopCode Tryz.f105 0) (p, (c, (t13, (t14, t15)))) key_impl_Program_isCommand) (by kernel_rfl)
theorem impl_Program_isCommand_eq (p : DProgram) (c : DCommand) : impl_Program_isCommand p c =
(impl_Program_isCondition p c.1).bind fun r =>
 bif !r then
 some false
else 
(impl_Program_isCommand_L0 p c c.2 (c.2.2.length : Int) 0).bind fun r1 =>
 match r1 with
| .inl y =>
 some y
| .inr z =>
 some true := Eq.trans (inf_call_eq (H := H) 105 (p, c)) (by kernel_rfl)
theorem impl_GoodProgram_1_eq (c : DCommand) (a1 : DProgram) : impl_GoodProgram_1 c a1 =
(impl_Program_isCommand a1 c).bind fun r =>
 some (!r) := Eq.trans (inf_call_eq (H := H) 104 (c, a1)) (by kernel_rfl)
theorem slices_IndexFunc_Command_by_GoodProgram_1_L0_eq (s : Bool × List DCommand) (f : DProgram × Unit) (t7 : Int) (t8 : Int) : slices_IndexFunc_Command_by_GoodProgram_1_L0 s f t7 t8 =
 bif decide (t8 < t7) then
 bif decide (0 ≤ t8) then
 bif decide (t8 < (s.2.length : Int)) then
(impl_GoodProgram_1 (s.2.getD (Int.toNat t8) ((true, []), (true, []))) f.1).bind fun r =>
 bif r then
 some (.inl t8)
else 
(slices_IndexFunc_Command_by_GoodProgram_1_L0 s f t7 (IntKind.i64.wrap (t8 + 1))).bind fun r => some r
else none
else none
else 
 some (.inr ()) := Eq.trans (inf_loop_eq (H := H) 120 0 (loopCode Tryz.f120 0) (s, (f, (t7, t8))) key_slices_IndexFunc_Command_by_GoodProgram_1) (by kernel_rfl)
theorem slices_IndexFunc_Command_by_GoodProgram_1_eq (s : Bool × List DCommand) (f : DProgram × Unit) : slices_IndexFunc_Command_by_GoodProgram_1 s f =
(slices_IndexFunc_Command_by_GoodProgram_1_L0 s f (s.2.length : Int) 0).bind fun r =>
 match r with
| .inl y =>
 some y
| .inr z =>
 some (-1) := Eq.trans (inf_call_eq (H := H) 120 (s, f)) (by kernel_rfl)
theorem slices_ContainsFunc_Command_by_GoodProgram_1_eq (s : Bool × List DCommand) (f : DProgram × Unit) : slices_ContainsFunc_Command_by_GoodProgram_1 s f =
(slices_IndexFunc_Command_by_GoodProgram_1 s f).bind fun r =>
 some (decide (r ≥ 0)) := Eq.trans (inf_call_eq (H := H) 103 (s, f)) (by kernel_rfl)
theorem impl_GoodProgram_eq (p : DProgram) : impl_GoodProgram p =
(impl_isWide p.1).bind fun r =>
 bif !r then
 some false
else 
(impl_isVars p.2.1).bind fun r1 =>
 bif !r1 then
 some false
else 
(impl_Program_isCondition p p.2.2.1).bind fun r2 =>
 bif !r2 then
 some false
else 
 bif decide ((p.2.2.2.2.length : Int) < 1) then
 some false
else 
 bif decide ((p.2.2.2.2.length : Int) > 6) then
 some false
else 
(slices_ContainsFunc_Command_by_GoodProgram_1 p.2.2.2 (p, ())).bind fun r3 =>
 some (!r3) := Eq.trans (inf_call_eq (H := H) 81 p) (by kernel_rfl)
theorem impl_isSmall_eq (p : DProgram) : impl_isSmall p =
(impl_GoodProgram p).bind fun r =>
 bif r then
 some (decide ((IntKind.i64.wrap (p.1 * p.2.1)) ≤ 5))
else 
 some false := Eq.trans (inf_call_eq (H := H) 50 p) (by kernel_rfl)
theorem impl_Program_states_eq (p : DProgram) : impl_Program_states p =
 bif decide ((IntKind.i64.wrap (p.1 * p.2.1)) < 0) then
 none
else 
 some (bShl .i64 1 (IntKind.i64.wrap (p.1 * p.2.1))) := Eq.trans (inf_call_eq (H := H) 53 p) (by kernel_rfl)
theorem impl_isSight_L0_eq (states : Int) (v : DSight) (classes : Int) (t9 : Bool × List Int) (t10 : Int) (t11 : Int) : impl_isSight_L0 states v classes t9 t10 t11 =
 bif decide (t11 < t10) then
 bif decide (0 ≤ t11) then
 bif decide (t11 < (t9.2.length : Int)) then
 bif decide ((t9.2.getD (Int.toNat t11) 0) < 0) then
 some (.inl false)
else 
 bif decide ((t9.2.getD (Int.toNat t11) 0) > classes) then
 some (.inl false)
else 
 bif ((t9.2.getD (Int.toNat t11) 0) == classes) then
(impl_isSight_L0 states v (IntKind.i64.wrap (classes + 1)) t9 t10 (IntKind.i64.wrap (t11 + 1))).bind fun r => some r
else 
(impl_isSight_L0 states v classes t9 t10 (IntKind.i64.wrap (t11 + 1))).bind fun r => some r
else none
else none
else 
 some (.inr ()) := Eq.trans (inf_loop_eq (H := H) 70 0 (loopCode Tryz.f70 0) (states, (v, (classes, (t9, (t10, t11))))) key_impl_isSight) (by kernel_rfl)
theorem impl_isSight_eq (v : DSight) (states : Int) : impl_isSight v states =
(impl_isSight_L0 states v 0 v (v.2.length : Int) 0).bind fun r =>
 match r with
| .inl y =>
 some y
| .inr z =>
 some ((v.2.length : Int) == states) := Eq.trans (inf_call_eq (H := H) 70 (v, states)) (by kernel_rfl)
theorem impl_GoodSight_eq (p : DProgram) (v : DSight) : impl_GoodSight p v =
(impl_isSmall p).bind fun r =>
 bif r then
(impl_Program_states p).bind fun r1 =>
(impl_isSight v r1).bind fun r2 =>
 some r2
else 
 some false := Eq.trans (inf_call_eq (H := H) 38 (p, v)) (by kernel_rfl)
theorem impl_Program_stateOf_L0_eq (no : Int) (p : DProgram) (out : Bool × List Int) (t9 : Int) (t10 : Int) : impl_Program_stateOf_L0 no p out t9 t10 =
 bif decide (t10 < t9) then
 bif decide ((IntKind.i64.wrap (p.1 * t10)) < 0) then
 none
else 
(impl_mask p.1).bind fun r =>
 bif decide (out.2.length + [bAnd .u64 (bShr .u64 (IntKind.u64.wrap no) (IntKind.i64.wrap (p.1 * t10))) r].length ≤ lim) then
(impl_Program_stateOf_L0 no p ((out.1 && false), (out.2 ++ [bAnd .u64 (bShr .u64 (IntKind.u64.wrap no) (IntKind.i64.wrap (p.1 * t10))) r])) t9 (IntKind.i64.wrap (t10 + 1))).bind fun r => some r
else none
else 
 some (out.1, out.2) := Eq.trans (inf_loop_eq (H := H) 74 0 (loopCode Tryz.f74 0) (no, (p, (out, (t9, t10)))) key_impl_Program_stateOf) (by kernel_rfl)
theorem impl_Program_stateOf_eq (p : DProgram) (no : Int) : impl_Program_stateOf p no =
(impl_Program_stateOf_L0 no p (false, []) p.2.1 0).bind fun r =>
 some (r.1, r.2) := Eq.trans (inf_call_eq (H := H) 74 (p, no)) (by kernel_rfl)
theorem impl_areWords_eq (wide : Int) (a : Int) (b : Int) : impl_areWords wide a b =
(impl_GoodWord wide a).bind fun r =>
 bif r then
(impl_GoodWord wide b).bind fun r1 =>
 some r1
else 
 some false := Eq.trans (inf_call_eq (H := H) 152 (wide, (a, b))) (by kernel_rfl)
theorem bits_Div64_eq (hi : Int) (lo : Int) (y : Int) : bits_Div64 hi lo y =
 bif (y == 0) then
 none
else 
 bif decide (y ≤ hi) then
 none
else 
 bif (hi == 0) then
 bif (y == 0) then
 none
else 
 bif (y == 0) then
 none
else 
 some (IntKind.u64.wrap (Int.tdiv lo y), Int.tmod lo y)
else none := Eq.trans (inf_call_eq (H := H) 153 (hi, (lo, y))) (by kernel_rfl)
theorem impl_DivWord_eq (wide : Int) (a : Int) (b : Int) : impl_DivWord wide a b =
(impl_areWords wide a b).bind fun r =>
 bif !r then
 some (0, (0, false))
else 
 bif (b == 0) then
(impl_mask wide).bind fun r1 =>
 some (r1, (a, true))
else 
(bits_Div64 0 a b).bind fun r2 =>
 some (r2.1, (r2.2, true)) := Eq.trans (inf_call_eq (H := H) 137 (wide, (a, b))) (by kernel_rfl)
theorem impl_shift_eq (wide : Int) (a : Int) (by_ : Int) (left_ : Bool) : impl_shift wide a by_ left_ =
 bif decide (by_ ≥ (IntKind.u64.wrap wide)) then
 some 0
else 
 bif left_ then
 bif decide (by_ < 0) then
 none
else 
(impl_mask wide).bind fun r =>
 some (bAnd .u64 (bShl .u64 a by_) r)
else 
 bif decide (by_ < 0) then
 none
else 
 some (bShr .u64 a by_) := Eq.trans (inf_call_eq (H := H) 138 (wide, (a, (by_, left_)))) (by kernel_rfl)
theorem impl_truth_eq (holds : Bool) : impl_truth holds =
 bif holds then
 some 1
else 
 some 0 := Eq.trans (inf_call_eq (H := H) 139 holds) (by kernel_rfl)
theorem impl_signed_eq (wide : Int) (a : Int) : impl_signed wide a =
 bif decide ((IntKind.i64.wrap (64 - wide)) < 0) then
 none
else 
 bif decide ((IntKind.i64.wrap (64 - wide)) < 0) then
 none
else 
 some (bShr .i64 (IntKind.i64.wrap (bShl .u64 a (IntKind.i64.wrap (64 - wide)))) (IntKind.i64.wrap (64 - wide))) := Eq.trans (inf_call_eq (H := H) 140 (wide, a)) (by kernel_rfl)
theorem impl_apply_eq (wide : Int) (op : Int) (a : Int) (b : Int) : impl_apply wide op a b =
 bif (op == 3) then
(impl_mask wide).bind fun r =>
 some (bAnd .u64 (IntKind.u64.wrap (a + b)) r)
else 
 bif (op == 4) then
(impl_mask wide).bind fun r1 =>
 some (bAnd .u64 (IntKind.u64.wrap (a - b)) r1)
else 
 bif (op == 5) then
(impl_mask wide).bind fun r2 =>
 some (bAnd .u64 (IntKind.u64.wrap (a * b)) r2)
else 
 bif (op == 6) then
(impl_DivWord wide a b).bind fun r3 =>
(impl_mask wide).bind fun r4 =>
 some (bAnd .u64 r3.1 r4)
else 
 bif (op == 7) then
(impl_DivWord wide a b).bind fun r5 =>
(impl_mask wide).bind fun r6 =>
 some (bAnd .u64 r5.2.1 r6)
else 
 bif (op == 8) then
 bif (op == 8) then
(impl_mask wide).bind fun r7 =>
 some (bAnd .u64 (bAnd .u64 a b) r7)
else 
 bif (op == 9) then
 bif (op == 9) then
(impl_mask wide).bind fun r8 =>
 some (bAnd .u64 (bOr .u64 a b) r8)
else 
 bif (op == 10) then
(impl_mask wide).bind fun r9 =>
 some (bAnd .u64 (bXor .u64 a b) r9)
else 
 bif (op == 11) then
 bif (op == 11) then
(impl_shift wide a b (op == 11)).bind fun r10 =>
(impl_mask wide).bind fun r11 =>
 some (bAnd .u64 r10 r11)
else 
 bif (op == 14) then
(impl_truth (a == b)).bind fun r12 =>
(impl_mask wide).bind fun r13 =>
 some (bAnd .u64 r12 r13)
else 
 bif (op == 15) then
(impl_truth (decide (a < b))).bind fun r14 =>
(impl_mask wide).bind fun r15 =>
 some (bAnd .u64 r14 r15)
else 
 bif (op == 16) then
(impl_signed wide a).bind fun r16 =>
(impl_signed wide b).bind fun r17 =>
(impl_truth (decide (r16 < r17))).bind fun r18 =>
(impl_mask wide).bind fun r19 =>
 some (bAnd .u64 r18 r19)
else 
(impl_mask wide).bind fun r20 =>
 some (bAnd .u64 0 r20)
else 
 bif (op == 12) then
(impl_shift wide a b (op == 11)).bind fun r21 =>
(impl_mask wide).bind fun r22 =>
 some (bAnd .u64 r21 r22)
else 
 bif (op == 14) then
(impl_truth (a == b)).bind fun r23 =>
(impl_mask wide).bind fun r24 =>
 some (bAnd .u64 r23 r24)
else 
 bif (op == 15) then
(impl_truth (decide (a < b))).bind fun r25 =>
(impl_mask wide).bind fun r26 =>
 some (bAnd .u64 r25 r26)
else 
 bif (op == 16) then
(impl_signed wide a).bind fun r27 =>
(impl_signed wide b).bind fun r28 =>
(impl_truth (decide (r27 < r28))).bind fun r29 =>
(impl_mask wide).bind fun r30 =>
 some (bAnd .u64 r29 r30)
else 
(impl_mask wide).bind fun r31 =>
 some (bAnd .u64 0 r31)
else 
 bif (op == 18) then
(impl_mask wide).bind fun r32 =>
 some (bAnd .u64 (bOr .u64 a b) r32)
else 
 bif (op == 10) then
(impl_mask wide).bind fun r33 =>
 some (bAnd .u64 (bXor .u64 a b) r33)
else 
 bif (op == 11) then
 bif (op == 11) then
(impl_shift wide a b (op == 11)).bind fun r34 =>
(impl_mask wide).bind fun r35 =>
 some (bAnd .u64 r34 r35)
else 
 bif (op == 14) then
(impl_truth (a == b)).bind fun r36 =>
(impl_mask wide).bind fun r37 =>
 some (bAnd .u64 r36 r37)
else 
 bif (op == 15) then
(impl_truth (decide (a < b))).bind fun r38 =>
(impl_mask wide).bind fun r39 =>
 some (bAnd .u64 r38 r39)
else 
 bif (op == 16) then
(impl_signed wide a).bind fun r40 =>
(impl_signed wide b).bind fun r41 =>
(impl_truth (decide (r40 < r41))).bind fun r42 =>
(impl_mask wide).bind fun r43 =>
 some (bAnd .u64 r42 r43)
else 
(impl_mask wide).bind fun r44 =>
 some (bAnd .u64 0 r44)
else 
 bif (op == 12) then
(impl_shift wide a b (op == 11)).bind fun r45 =>
(impl_mask wide).bind fun r46 =>
 some (bAnd .u64 r45 r46)
else 
 bif (op == 14) then
(impl_truth (a == b)).bind fun r47 =>
(impl_mask wide).bind fun r48 =>
 some (bAnd .u64 r47 r48)
else 
 bif (op == 15) then
(impl_truth (decide (a < b))).bind fun r49 =>
(impl_mask wide).bind fun r50 =>
 some (bAnd .u64 r49 r50)
else 
 bif (op == 16) then
(impl_signed wide a).bind fun r51 =>
(impl_signed wide b).bind fun r52 =>
(impl_truth (decide (r51 < r52))).bind fun r53 =>
(impl_mask wide).bind fun r54 =>
 some (bAnd .u64 r53 r54)
else 
(impl_mask wide).bind fun r55 =>
 some (bAnd .u64 0 r55)
else 
 bif (op == 17) then
(impl_mask wide).bind fun r56 =>
 some (bAnd .u64 (bAnd .u64 a b) r56)
else 
 bif (op == 9) then
 bif (op == 9) then
(impl_mask wide).bind fun r57 =>
 some (bAnd .u64 (bOr .u64 a b) r57)
else 
 bif (op == 10) then
(impl_mask wide).bind fun r58 =>
 some (bAnd .u64 (bXor .u64 a b) r58)
else 
 bif (op == 11) then
 bif (op == 11) then
(impl_shift wide a b (op == 11)).bind fun r59 =>
(impl_mask wide).bind fun r60 =>
 some (bAnd .u64 r59 r60)
else 
 bif (op == 14) then
(impl_truth (a == b)).bind fun r61 =>
(impl_mask wide).bind fun r62 =>
 some (bAnd .u64 r61 r62)
else 
 bif (op == 15) then
(impl_truth (decide (a < b))).bind fun r63 =>
(impl_mask wide).bind fun r64 =>
 some (bAnd .u64 r63 r64)
else 
 bif (op == 16) then
(impl_signed wide a).bind fun r65 =>
(impl_signed wide b).bind fun r66 =>
(impl_truth (decide (r65 < r66))).bind fun r67 =>
(impl_mask wide).bind fun r68 =>
 some (bAnd .u64 r67 r68)
else 
(impl_mask wide).bind fun r69 =>
 some (bAnd .u64 0 r69)
else 
 bif (op == 12) then
(impl_shift wide a b (op == 11)).bind fun r70 =>
(impl_mask wide).bind fun r71 =>
 some (bAnd .u64 r70 r71)
else 
 bif (op == 14) then
(impl_truth (a == b)).bind fun r72 =>
(impl_mask wide).bind fun r73 =>
 some (bAnd .u64 r72 r73)
else 
 bif (op == 15) then
(impl_truth (decide (a < b))).bind fun r74 =>
(impl_mask wide).bind fun r75 =>
 some (bAnd .u64 r74 r75)
else 
 bif (op == 16) then
(impl_signed wide a).bind fun r76 =>
(impl_signed wide b).bind fun r77 =>
(impl_truth (decide (r76 < r77))).bind fun r78 =>
(impl_mask wide).bind fun r79 =>
 some (bAnd .u64 r78 r79)
else 
(impl_mask wide).bind fun r80 =>
 some (bAnd .u64 0 r80)
else 
 bif (op == 18) then
(impl_mask wide).bind fun r81 =>
 some (bAnd .u64 (bOr .u64 a b) r81)
else 
 bif (op == 10) then
(impl_mask wide).bind fun r82 =>
 some (bAnd .u64 (bXor .u64 a b) r82)
else 
 bif (op == 11) then
 bif (op == 11) then
(impl_shift wide a b (op == 11)).bind fun r83 =>
(impl_mask wide).bind fun r84 =>
 some (bAnd .u64 r83 r84)
else 
 bif (op == 14) then
(impl_truth (a == b)).bind fun r85 =>
(impl_mask wide).bind fun r86 =>
 some (bAnd .u64 r85 r86)
else 
 bif (op == 15) then
(impl_truth (decide (a < b))).bind fun r87 =>
(impl_mask wide).bind fun r88 =>
 some (bAnd .u64 r87 r88)
else 
 bif (op == 16) then
(impl_signed wide a).bind fun r89 =>
(impl_signed wide b).bind fun r90 =>
(impl_truth (decide (r89 < r90))).bind fun r91 =>
(impl_mask wide).bind fun r92 =>
 some (bAnd .u64 r91 r92)
else 
(impl_mask wide).bind fun r93 =>
 some (bAnd .u64 0 r93)
else 
 bif (op == 12) then
(impl_shift wide a b (op == 11)).bind fun r94 =>
(impl_mask wide).bind fun r95 =>
 some (bAnd .u64 r94 r95)
else 
 bif (op == 14) then
(impl_truth (a == b)).bind fun r96 =>
(impl_mask wide).bind fun r97 =>
 some (bAnd .u64 r96 r97)
else 
 bif (op == 15) then
(impl_truth (decide (a < b))).bind fun r98 =>
(impl_mask wide).bind fun r99 =>
 some (bAnd .u64 r98 r99)
else 
 bif (op == 16) then
(impl_signed wide a).bind fun r100 =>
(impl_signed wide b).bind fun r101 =>
(impl_truth (decide (r100 < r101))).bind fun r102 =>
(impl_mask wide).bind fun r103 =>
 some (bAnd .u64 r102 r103)
else 
(impl_mask wide).bind fun r104 =>
 some (bAnd .u64 0 r104) := Eq.trans (inf_call_eq (H := H) 116 (wide, (op, (a, b)))) (by kernel_rfl)
theorem impl_valueOf_L0_eq (wide : Int) (state : Bool × List Int) (stack : Bool × List Int) (t12 : Bool × List DNode) (t13 : Int) (t14 : Int) : impl_valueOf_L0 wide state stack t12 t13 t14 =
 bif decide (t14 < t13) then
 bif decide (0 ≤ t14) then
 bif decide (t14 < (t12.2.length : Int)) then
 bif (((t12.2.getD (Int.toNat t14) (0, 0)).1) == 1) then
 bif (((t12.2.getD (Int.toNat t14) (0, 0)).1) == 1) then
 bif decide (stack.2.length + [(t12.2.getD (Int.toNat t14) (0, 0)).2].length ≤ lim) then
(impl_valueOf_L0 wide state ((stack.1 && false), (stack.2 ++ [(t12.2.getD (Int.toNat t14) (0, 0)).2])) t12 t13 (IntKind.i64.wrap (t14 + 1))).bind fun r => some r
else none
else 
 bif (((t12.2.getD (Int.toNat t14) (0, 0)).1) == 2) then
 bif decide (0 ≤ ((t12.2.getD (Int.toNat t14) (0, 0)).2)) then
 bif decide (((t12.2.getD (Int.toNat t14) (0, 0)).2) < (state.2.length : Int)) then
 bif decide (stack.2.length + [(state.2.getD (Int.toNat ((t12.2.getD (Int.toNat t14) (0, 0)).2)) 0)].length ≤ lim) then
(impl_valueOf_L0 wide state ((stack.1 && false), (stack.2 ++ [(state.2.getD (Int.toNat ((t12.2.getD (Int.toNat t14) (0, 0)).2)) 0)])) t12 t13 (IntKind.i64.wrap (t14 + 1))).bind fun r => some r
else none
else none
else none
else 
 bif (((t12.2.getD (Int.toNat t14) (0, 0)).1) == 13) then
 bif decide (0 ≤ (IntKind.i64.wrap ((stack.2.length : Int) - 1))) then
 bif decide ((IntKind.i64.wrap ((stack.2.length : Int) - 1)) < (stack.2.length : Int)) then
(impl_mask wide).bind fun r =>
 bif decide (0 ≤ (IntKind.i64.wrap ((stack.2.length : Int) - 1))) then
 bif decide ((IntKind.i64.wrap ((stack.2.length : Int) - 1)) < (stack.2.length : Int)) then
(impl_valueOf_L0 wide state (stack.1, (stack.2.set (Int.toNat (IntKind.i64.wrap ((stack.2.length : Int) - 1))) (bAnd .u64 (bXor .u64 18446744073709551615 (stack.2.getD (Int.toNat (IntKind.i64.wrap ((stack.2.length : Int) - 1))) 0)) r))) t12 t13 (IntKind.i64.wrap (t14 + 1))).bind fun r => some r
else none
else none
else none
else none
else 
 bif (((t12.2.getD (Int.toNat t14) (0, 0)).1) == 19) then
 bif decide (0 ≤ (IntKind.i64.wrap ((stack.2.length : Int) - 1))) then
 bif decide ((IntKind.i64.wrap ((stack.2.length : Int) - 1)) < (stack.2.length : Int)) then
 bif decide (0 ≤ (IntKind.i64.wrap ((stack.2.length : Int) - 1))) then
 bif decide ((IntKind.i64.wrap ((stack.2.length : Int) - 1)) < (stack.2.length : Int)) then
(impl_valueOf_L0 wide state (stack.1, (stack.2.set (Int.toNat (IntKind.i64.wrap ((stack.2.length : Int) - 1))) (IntKind.u64.wrap (1 - (stack.2.getD (Int.toNat (IntKind.i64.wrap ((stack.2.length : Int) - 1))) 0))))) t12 t13 (IntKind.i64.wrap (t14 + 1))).bind fun r => some r
else none
else none
else none
else none
else 
 bif decide (0 ≤ (IntKind.i64.wrap ((IntKind.i64.wrap ((stack.2.length : Int) - 1)) - 1))) then
 bif decide ((IntKind.i64.wrap ((IntKind.i64.wrap ((stack.2.length : Int) - 1)) - 1)) ≤ (stack.2.length : Int)) then
 bif decide (0 ≤ (IntKind.i64.wrap ((IntKind.i64.wrap ((stack.2.length : Int) - 1)) - 1))) then
 bif decide ((IntKind.i64.wrap ((IntKind.i64.wrap ((stack.2.length : Int) - 1)) - 1)) < (stack.2.length : Int)) then
 bif decide (0 ≤ (IntKind.i64.wrap ((stack.2.length : Int) - 1))) then
 bif decide ((IntKind.i64.wrap ((stack.2.length : Int) - 1)) < (stack.2.length : Int)) then
(impl_apply wide ((t12.2.getD (Int.toNat t14) (0, 0)).1) (stack.2.getD (Int.toNat (IntKind.i64.wrap ((IntKind.i64.wrap ((stack.2.length : Int) - 1)) - 1))) 0) (stack.2.getD (Int.toNat (IntKind.i64.wrap ((stack.2.length : Int) - 1))) 0)).bind fun r1 =>
 bif decide (((stack.2.take (Int.toNat (IntKind.i64.wrap ((IntKind.i64.wrap ((stack.2.length : Int) - 1)) - 1)))).drop 0).length + [r1].length ≤ lim) then
(impl_valueOf_L0 wide state ((stack.1 && false), (((stack.2.take (Int.toNat (IntKind.i64.wrap ((IntKind.i64.wrap ((stack.2.length : Int) - 1)) - 1)))).drop 0) ++ [r1])) t12 t13 (IntKind.i64.wrap (t14 + 1))).bind fun r => some r
else none
else none
else none
else none
else none
else none
else none
else 
 bif (((t12.2.getD (Int.toNat t14) (0, 0)).1) == 20) then
 bif decide (stack.2.length + [(t12.2.getD (Int.toNat t14) (0, 0)).2].length ≤ lim) then
(impl_valueOf_L0 wide state ((stack.1 && false), (stack.2 ++ [(t12.2.getD (Int.toNat t14) (0, 0)).2])) t12 t13 (IntKind.i64.wrap (t14 + 1))).bind fun r => some r
else none
else 
 bif (((t12.2.getD (Int.toNat t14) (0, 0)).1) == 2) then
 bif decide (0 ≤ ((t12.2.getD (Int.toNat t14) (0, 0)).2)) then
 bif decide (((t12.2.getD (Int.toNat t14) (0, 0)).2) < (state.2.length : Int)) then
 bif decide (stack.2.length + [(state.2.getD (Int.toNat ((t12.2.getD (Int.toNat t14) (0, 0)).2)) 0)].length ≤ lim) then
(impl_valueOf_L0 wide state ((stack.1 && false), (stack.2 ++ [(state.2.getD (Int.toNat ((t12.2.getD (Int.toNat t14) (0, 0)).2)) 0)])) t12 t13 (IntKind.i64.wrap (t14 + 1))).bind fun r => some r
else none
else none
else none
else 
 bif (((t12.2.getD (Int.toNat t14) (0, 0)).1) == 13) then
 bif decide (0 ≤ (IntKind.i64.wrap ((stack.2.length : Int) - 1))) then
 bif decide ((IntKind.i64.wrap ((stack.2.length : Int) - 1)) < (stack.2.length : Int)) then
(impl_mask wide).bind fun r2 =>
 bif decide (0 ≤ (IntKind.i64.wrap ((stack.2.length : Int) - 1))) then
 bif decide ((IntKind.i64.wrap ((stack.2.length : Int) - 1)) < (stack.2.length : Int)) then
(impl_valueOf_L0 wide state (stack.1, (stack.2.set (Int.toNat (IntKind.i64.wrap ((stack.2.length : Int) - 1))) (bAnd .u64 (bXor .u64 18446744073709551615 (stack.2.getD (Int.toNat (IntKind.i64.wrap ((stack.2.length : Int) - 1))) 0)) r2))) t12 t13 (IntKind.i64.wrap (t14 + 1))).bind fun r => some r
else none
else none
else none
else none
else 
 bif (((t12.2.getD (Int.toNat t14) (0, 0)).1) == 19) then
 bif decide (0 ≤ (IntKind.i64.wrap ((stack.2.length : Int) - 1))) then
 bif decide ((IntKind.i64.wrap ((stack.2.length : Int) - 1)) < (stack.2.length : Int)) then
 bif decide (0 ≤ (IntKind.i64.wrap ((stack.2.length : Int) - 1))) then
 bif decide ((IntKind.i64.wrap ((stack.2.length : Int) - 1)) < (stack.2.length : Int)) then
(impl_valueOf_L0 wide state (stack.1, (stack.2.set (Int.toNat (IntKind.i64.wrap ((stack.2.length : Int) - 1))) (IntKind.u64.wrap (1 - (stack.2.getD (Int.toNat (IntKind.i64.wrap ((stack.2.length : Int) - 1))) 0))))) t12 t13 (IntKind.i64.wrap (t14 + 1))).bind fun r => some r
else none
else none
else none
else none
else 
 bif decide (0 ≤ (IntKind.i64.wrap ((IntKind.i64.wrap ((stack.2.length : Int) - 1)) - 1))) then
 bif decide ((IntKind.i64.wrap ((IntKind.i64.wrap ((stack.2.length : Int) - 1)) - 1)) ≤ (stack.2.length : Int)) then
 bif decide (0 ≤ (IntKind.i64.wrap ((IntKind.i64.wrap ((stack.2.length : Int) - 1)) - 1))) then
 bif decide ((IntKind.i64.wrap ((IntKind.i64.wrap ((stack.2.length : Int) - 1)) - 1)) < (stack.2.length : Int)) then
 bif decide (0 ≤ (IntKind.i64.wrap ((stack.2.length : Int) - 1))) then
 bif decide ((IntKind.i64.wrap ((stack.2.length : Int) - 1)) < (stack.2.length : Int)) then
(impl_apply wide ((t12.2.getD (Int.toNat t14) (0, 0)).1) (stack.2.getD (Int.toNat (IntKind.i64.wrap ((IntKind.i64.wrap ((stack.2.length : Int) - 1)) - 1))) 0) (stack.2.getD (Int.toNat (IntKind.i64.wrap ((stack.2.length : Int) - 1))) 0)).bind fun r3 =>
 bif decide (((stack.2.take (Int.toNat (IntKind.i64.wrap ((IntKind.i64.wrap ((stack.2.length : Int) - 1)) - 1)))).drop 0).length + [r3].length ≤ lim) then
(impl_valueOf_L0 wide state ((stack.1 && false), (((stack.2.take (Int.toNat (IntKind.i64.wrap ((IntKind.i64.wrap ((stack.2.length : Int) - 1)) - 1)))).drop 0) ++ [r3])) t12 t13 (IntKind.i64.wrap (t14 + 1))).bind fun r => some r
else none
else none
else none
else none
else none
else none
else none
else none
else none
else 
 some (stack.1, stack.2) := Eq.trans (inf_loop_eq (H := H) 95 0 (loopCode Tryz.f95 0) (wide, (state, (stack, (t12, (t13, t14))))) key_impl_valueOf) (by kernel_rfl)
theorem impl_valueOf_eq (wide : Int) (t : Bool × List DNode) (state : Bool × List Int) : impl_valueOf wide t state =
(impl_valueOf_L0 wide state (false, []) t (t.2.length : Int) 0).bind fun r =>
 bif decide (0 < (r.2.length : Int)) then
 some (r.2.getD 0 0)
else none := Eq.trans (inf_call_eq (H := H) 95 (wide, (t, state))) (by kernel_rfl)
theorem impl_Program_holds_eq (p : DProgram) (t : Bool × List DNode) (s : Bool × List Int) : impl_Program_holds p t s =
(impl_valueOf p.1 t s).bind fun r =>
 some (r == 1) := Eq.trans (inf_call_eq (H := H) 73 (p, (t, s))) (by kernel_rfl)
theorem impl_Program_where_L0_eq (t : Bool × List DNode) (p : DProgram) (out : Bool × List Int) (t9 : Int) (t10 : Int) : impl_Program_where_L0 t p out t9 t10 =
 bif decide (t10 < t9) then
(impl_Program_stateOf p t10).bind fun r =>
(impl_Program_holds p t (r.1, r.2)).bind fun r1 =>
 bif r1 then
 bif decide (out.2.length + [t10].length ≤ lim) then
(impl_Program_where_L0 t p ((out.1 && false), (out.2 ++ [t10])) t9 (IntKind.i64.wrap (t10 + 1))).bind fun r => some r
else none
else 
(impl_Program_where_L0 t p (out.1, out.2) t9 (IntKind.i64.wrap (t10 + 1))).bind fun r => some r
else 
 some (out.1, out.2) := Eq.trans (inf_loop_eq (H := H) 40 0 (loopCode Tryz.f40 0) (t, (p, (out, (t9, t10)))) key_impl_Program_where) (by kernel_rfl)
theorem impl_Program_where_eq (p : DProgram) (t : Bool × List DNode) : impl_Program_where p t =
(impl_Program_states p).bind fun r =>
(impl_Program_where_L0 t p (false, []) r 0).bind fun r1 =>
 some (r1.1, r1.2) := Eq.trans (inf_call_eq (H := H) 40 (p, t)) (by kernel_rfl)
theorem slices_Max_int_L0_eq (x : Bool × List Int) (m : Int) (i : Int) : slices_Max_int_L0 x m i =
 bif decide (i < (x.2.length : Int)) then
 bif decide (0 ≤ i) then
 bif decide (i < (x.2.length : Int)) then
(slices_Max_int_L0 x (bif decide (m < (x.2.getD (Int.toNat i) 0)) then (x.2.getD (Int.toNat i) 0) else m) (IntKind.i64.wrap (i + 1))).bind fun r => some r
else none
else none
else 
 some m := Eq.trans (inf_loop_eq (H := H) 94 0 (loopCode Tryz.f94 0) (x, (m, i)) key_slices_Max_int) (by kernel_rfl)
theorem slices_Max_int_eq (x : Bool × List Int) : slices_Max_int x =
 bif decide ((x.2.length : Int) < 1) then
 none
else 
 bif decide (0 < (x.2.length : Int)) then
(slices_Max_int_L0 x (x.2.getD 0 0) 1).bind fun r =>
 some r
else none := Eq.trans (inf_call_eq (H := H) 94 x) (by kernel_rfl)
theorem impl_Sight_classes_eq (v : DSight) : impl_Sight_classes v =
(slices_Max_int v).bind fun r =>
 some (IntKind.i64.wrap (r + 1)) := Eq.trans (inf_call_eq (H := H) 71 v) (by kernel_rfl)
theorem impl_marked_L0_eq (out : Bool × List Int) (t7 : Bool × List Bool) (t8 : Int) (t9 : Int) : impl_marked_L0 out t7 t8 t9 =
 bif decide (t9 < t8) then
 bif decide (0 ≤ t9) then
 bif decide (t9 < (t7.2.length : Int)) then
 bif (t7.2.getD (Int.toNat t9) false) then
 bif decide (out.2.length + [t9].length ≤ lim) then
(impl_marked_L0 ((out.1 && false), (out.2 ++ [t9])) t7 t8 (IntKind.i64.wrap (t9 + 1))).bind fun r => some r
else none
else 
(impl_marked_L0 (out.1, out.2) t7 t8 (IntKind.i64.wrap (t9 + 1))).bind fun r => some r
else none
else none
else 
 some (out.1, out.2) := Eq.trans (inf_loop_eq (H := H) 72 0 (loopCode Tryz.f72 0) (out, (t7, (t8, t9))) key_impl_marked) (by kernel_rfl)
theorem impl_marked_eq (list : Bool × List Bool) : impl_marked list =
(impl_marked_L0 (false, []) list (list.2.length : Int) 0).bind fun r =>
 some (r.1, r.2) := Eq.trans (inf_call_eq (H := H) 72 list) (by kernel_rfl)
theorem impl_Sight_classesOf_L0_eq (v : DSight) (in_ : Bool × List Bool) (t11 : Bool × List Int) (t12 : Int) (t13 : Int) : impl_Sight_classesOf_L0 v in_ t11 t12 t13 =
 bif decide (t13 < t12) then
 bif decide (0 ≤ t13) then
 bif decide (t13 < (t11.2.length : Int)) then
 bif decide (0 ≤ (t11.2.getD (Int.toNat t13) 0)) then
 bif decide ((t11.2.getD (Int.toNat t13) 0) < (v.2.length : Int)) then
 bif decide (0 ≤ (v.2.getD (Int.toNat (t11.2.getD (Int.toNat t13) 0)) 0)) then
 bif decide ((v.2.getD (Int.toNat (t11.2.getD (Int.toNat t13) 0)) 0) < (in_.2.length : Int)) then
(impl_Sight_classesOf_L0 v (in_.1, (in_.2.set (Int.toNat (v.2.getD (Int.toNat (t11.2.getD (Int.toNat t13) 0)) 0)) true)) t11 t12 (IntKind.i64.wrap (t13 + 1))).bind fun r => some r
else none
else none
else none
else none
else none
else none
else 
 some (in_.1, in_.2) := Eq.trans (inf_loop_eq (H := H) 39 0 (loopCode Tryz.f39 0) (v, (in_, (t11, (t12, t13)))) key_impl_Sight_classesOf) (by kernel_rfl)
theorem impl_Sight_classesOf_eq (v : DSight) (some_ : Bool × List Int) : impl_Sight_classesOf v some_ =
(impl_Sight_classes v).bind fun r =>
 bif decide (0 ≤ r) then
 bif decide (r ≤ lim) then
 bif decide (r ≤ r) then
 bif decide (r ≤ lim) then
(impl_Sight_classesOf_L0 v (false, (List.replicate (Int.toNat r) (false : Bool))) some_ (some_.2.length : Int) 0).bind fun r1 =>
(impl_marked (r1.1, r1.2)).bind fun r2 =>
 some (r2.1, r2.2)
else none
else none
else none
else none := Eq.trans (inf_call_eq (H := H) 39 (v, some_)) (by kernel_rfl)
theorem impl_ClassStarts_eq (p : DProgram) (v : DSight) : impl_ClassStarts p v =
(impl_GoodSight p v).bind fun r =>
 bif !r then
 some ((true, []), false)
else 
(impl_Program_where p p.2.2.1).bind fun r1 =>
(impl_Sight_classesOf v (r1.1, r1.2)).bind fun r2 =>
 some ((r2.1, r2.2), true) := Eq.trans (inf_call_eq (H := H) 12 (p, v)) (by kernel_rfl)
theorem laws_eqIntS_L0_eq (a : Bool × List Int) (b : Bool × List Int) (i : Int) : laws_eqIntS_L0 a b i =
 bif decide (i < (a.2.length : Int)) then
 bif decide (0 ≤ i) then
 bif decide (i < (a.2.length : Int)) then
 bif decide (0 ≤ i) then
 bif decide (i < (b.2.length : Int)) then
 bif ((a.2.getD (Int.toNat i) 0) != (b.2.getD (Int.toNat i) 0)) then
 some (.inl false)
else 
(laws_eqIntS_L0 a b (IntKind.i64.wrap (i + 1))).bind fun r => some r
else none
else none
else none
else none
else 
 some (.inr ()) := Eq.trans (inf_loop_eq (H := H) 13 0 (loopCode Tryz.f13 0) (a, (b, i)) key_laws_eqIntS) (by kernel_rfl)
theorem laws_eqIntS_eq (a : Bool × List Int) (b : Bool × List Int) : laws_eqIntS a b =
 bif ((a.2.length : Int) != (b.2.length : Int)) then
 some false
else 
(laws_eqIntS_L0 a b 0).bind fun r =>
 match r with
| .inl y =>
 some y
| .inr z =>
 some true := Eq.trans (inf_call_eq (H := H) 13 (a, b)) (by kernel_rfl)
theorem laws_eqNode_eq (a : DNode) (b : DNode) : laws_eqNode a b =
 bif (a.1 != b.1) then
 some false
else 
 bif (a.2 != b.2) then
 some false
else 
 some true := Eq.trans (inf_call_eq (H := H) 75 (a, b)) (by kernel_rfl)
theorem laws_eqNodeS_L0_eq (a : Bool × List DNode) (b : Bool × List DNode) (i : Int) : laws_eqNodeS_L0 a b i =
 bif decide (i < (a.2.length : Int)) then
 bif decide (0 ≤ i) then
 bif decide (i < (a.2.length : Int)) then
 bif decide (0 ≤ i) then
 bif decide (i < (b.2.length : Int)) then
(laws_eqNode (a.2.getD (Int.toNat i) (0, 0)) (b.2.getD (Int.toNat i) (0, 0))).bind fun r =>
 bif !r then
 some (.inl false)
else 
(laws_eqNodeS_L0 a b (IntKind.i64.wrap (i + 1))).bind fun r => some r
else none
else none
else none
else none
else 
 some (.inr ()) := Eq.trans (inf_loop_eq (H := H) 41 0 (loopCode Tryz.f41 0) (a, (b, i)) key_laws_eqNodeS) (by kernel_rfl)
theorem laws_eqNodeS_eq (a : Bool × List DNode) (b : Bool × List DNode) : laws_eqNodeS a b =
 bif ((a.2.length : Int) != (b.2.length : Int)) then
 some false
else 
(laws_eqNodeS_L0 a b 0).bind fun r =>
 match r with
| .inl y =>
 some y
| .inr z =>
 some true := Eq.trans (inf_call_eq (H := H) 41 (a, b)) (by kernel_rfl)
theorem laws_eqChange_eq (a : DChange) (b : DChange) : laws_eqChange a b =
 bif (a.1 != b.1) then
 some false
else 
(laws_eqNodeS a.2 b.2).bind fun r =>
 bif !r then
 some false
else 
 some true := Eq.trans (inf_call_eq (H := H) 117 (a, b)) (by kernel_rfl)
theorem laws_eqChangeS_L0_eq (a : Bool × List DChange) (b : Bool × List DChange) (i : Int) : laws_eqChangeS_L0 a b i =
 bif decide (i < (a.2.length : Int)) then
 bif decide (0 ≤ i) then
 bif decide (i < (a.2.length : Int)) then
 bif decide (0 ≤ i) then
 bif decide (i < (b.2.length : Int)) then
(laws_eqChange (a.2.getD (Int.toNat i) (0, (true, []))) (b.2.getD (Int.toNat i) (0, (true, [])))).bind fun r =>
 bif !r then
 some (.inl false)
else 
(laws_eqChangeS_L0 a b (IntKind.i64.wrap (i + 1))).bind fun r => some r
else none
else none
else none
else none
else 
 some (.inr ()) := Eq.trans (inf_loop_eq (H := H) 97 0 (loopCode Tryz.f97 0) (a, (b, i)) key_laws_eqChangeS) (by kernel_rfl)
theorem laws_eqChangeS_eq (a : Bool × List DChange) (b : Bool × List DChange) : laws_eqChangeS a b =
 bif ((a.2.length : Int) != (b.2.length : Int)) then
 some false
else 
(laws_eqChangeS_L0 a b 0).bind fun r =>
 match r with
| .inl y =>
 some y
| .inr z =>
 some true := Eq.trans (inf_call_eq (H := H) 97 (a, b)) (by kernel_rfl)
theorem laws_eqCommand_eq (a : DCommand) (b : DCommand) : laws_eqCommand a b =
(laws_eqNodeS a.1 b.1).bind fun r =>
 bif !r then
 some false
else 
(laws_eqChangeS a.2 b.2).bind fun r1 =>
 bif !r1 then
 some false
else 
 some true := Eq.trans (inf_call_eq (H := H) 76 (a, b)) (by kernel_rfl)
theorem laws_eqCommandS_L0_eq (a : Bool × List DCommand) (b : Bool × List DCommand) (i : Int) : laws_eqCommandS_L0 a b i =
 bif decide (i < (a.2.length : Int)) then
 bif decide (0 ≤ i) then
 bif decide (i < (a.2.length : Int)) then
 bif decide (0 ≤ i) then
 bif decide (i < (b.2.length : Int)) then
(laws_eqCommand (a.2.getD (Int.toNat i) ((true, []), (true, []))) (b.2.getD (Int.toNat i) ((true, []), (true, [])))).bind fun r =>
 bif !r then
 some (.inl false)
else 
(laws_eqCommandS_L0 a b (IntKind.i64.wrap (i + 1))).bind fun r => some r
else none
else none
else none
else none
else 
 some (.inr ()) := Eq.trans (inf_loop_eq (H := H) 42 0 (loopCode Tryz.f42 0) (a, (b, i)) key_laws_eqCommandS) (by kernel_rfl)
theorem laws_eqCommandS_eq (a : Bool × List DCommand) (b : Bool × List DCommand) : laws_eqCommandS a b =
 bif ((a.2.length : Int) != (b.2.length : Int)) then
 some false
else 
(laws_eqCommandS_L0 a b 0).bind fun r =>
 match r with
| .inl y =>
 some y
| .inr z =>
 some true := Eq.trans (inf_call_eq (H := H) 42 (a, b)) (by kernel_rfl)
theorem laws_eqProgram_eq (a : DProgram) (b : DProgram) : laws_eqProgram a b =
 bif (a.1 != b.1) then
 some false
else 
 bif (a.2.1 != b.2.1) then
 some false
else 
(laws_eqNodeS a.2.2.1 b.2.2.1).bind fun r =>
 bif !r then
 some false
else 
(laws_eqCommandS a.2.2.2 b.2.2.2).bind fun r1 =>
 bif !r1 then
 some false
else 
 some true := Eq.trans (inf_call_eq (H := H) 14 (a, b)) (by kernel_rfl)
theorem laws_eqSight_eq (a : DSight) (b : DSight) : laws_eqSight a b =
(laws_eqIntS a b).bind fun r =>
 bif !r then
 some false
else 
 some true := Eq.trans (inf_call_eq (H := H) 15 (a, b)) (by kernel_rfl)
theorem laws_markNodeS_L0_eq (a : Bool × List DNode) (k_ : Int) (i : Int) : laws_markNodeS_L0 a k_ i =
 bif decide (i < (a.2.length : Int)) then
 bif decide (0 ≤ i) then
 bif decide (i < (a.2.length : Int)) then
 bif decide (0 ≤ i) then
 bif decide (i < ((a.2.set (Int.toNat i) (k_, (a.2.getD (Int.toNat i) (0, 0)).2)).length : Int)) then
(laws_markNodeS_L0 (a.1, ((a.2.set (Int.toNat i) (k_, (a.2.getD (Int.toNat i) (0, 0)).2)).set (Int.toNat i) (((a.2.set (Int.toNat i) (k_, (a.2.getD (Int.toNat i) (0, 0)).2)).getD (Int.toNat i) (0, 0)).1, IntKind.u64.wrap (IntKind.i64.wrap (k_ + 1))))) (IntKind.i64.wrap ((IntKind.i64.wrap (k_ + 1)) + 1)) (IntKind.i64.wrap (i + 1))).bind fun r => some r
else none
else none
else none
else none
else 
 some ((a.1, a.2), k_) := Eq.trans (inf_loop_eq (H := H) 43 0 (loopCode Tryz.f43 0) (a, (k_, i)) key_laws_markNodeS) (by kernel_rfl)
theorem laws_markNodeS_eq (a : Bool × List DNode) (k_ : Int) : laws_markNodeS a k_ =
(laws_markNodeS_L0 (a.1, a.2) k_ 0).bind fun r =>
 some ((r.1.1, r.1.2), r.2) := Eq.trans (inf_call_eq (H := H) 43 (a, k_)) (by kernel_rfl)
theorem laws_markChangeS_L0_eq (a : Bool × List DChange) (k_ : Int) (i : Int) : laws_markChangeS_L0 a k_ i =
 bif decide (i < (a.2.length : Int)) then
 bif decide (0 ≤ i) then
 bif decide (i < (a.2.length : Int)) then
 bif decide (0 ≤ i) then
 bif decide (i < ((a.2.set (Int.toNat i) (k_, (a.2.getD (Int.toNat i) (0, (true, []))).2)).length : Int)) then
(laws_markNodeS ((((a.2.set (Int.toNat i) (k_, (a.2.getD (Int.toNat i) (0, (true, []))).2)).getD (Int.toNat i) (0, (true, []))).2).1, (((a.2.set (Int.toNat i) (k_, (a.2.getD (Int.toNat i) (0, (true, []))).2)).getD (Int.toNat i) (0, (true, []))).2).2) (IntKind.i64.wrap (k_ + 1))).bind fun r =>
(laws_markChangeS_L0 (a.1, ((a.2.set (Int.toNat i) (k_, (a.2.getD (Int.toNat i) (0, (true, []))).2)).set (Int.toNat i) (((a.2.set (Int.toNat i) (k_, (a.2.getD (Int.toNat i) (0, (true, []))).2)).getD (Int.toNat i) (0, (true, []))).1, (r.1.1, r.1.2)))) r.2 (IntKind.i64.wrap (i + 1))).bind fun r => some r
else none
else none
else none
else none
else 
 some ((a.1, a.2), k_) := Eq.trans (inf_loop_eq (H := H) 77 0 (loopCode Tryz.f77 0) (a, (k_, i)) key_laws_markChangeS) (by kernel_rfl)
theorem laws_markChangeS_eq (a : Bool × List DChange) (k_ : Int) : laws_markChangeS a k_ =
(laws_markChangeS_L0 (a.1, a.2) k_ 0).bind fun r =>
 some ((r.1.1, r.1.2), r.2) := Eq.trans (inf_call_eq (H := H) 77 (a, k_)) (by kernel_rfl)
theorem laws_markCommandS_L0_eq (a : Bool × List DCommand) (k_ : Int) (i : Int) : laws_markCommandS_L0 a k_ i =
 bif decide (i < (a.2.length : Int)) then
 bif decide (0 ≤ i) then
 bif decide (i < (a.2.length : Int)) then
(laws_markNodeS (((a.2.getD (Int.toNat i) ((true, []), (true, []))).1).1, ((a.2.getD (Int.toNat i) ((true, []), (true, []))).1).2) k_).bind fun r =>
 bif decide (0 ≤ i) then
 bif decide (i < (a.2.length : Int)) then
(laws_markChangeS ((((a.2.set (Int.toNat i) ((r.1.1, r.1.2), (a.2.getD (Int.toNat i) ((true, []), (true, []))).2)).getD (Int.toNat i) ((true, []), (true, []))).2).1, (((a.2.set (Int.toNat i) ((r.1.1, r.1.2), (a.2.getD (Int.toNat i) ((true, []), (true, []))).2)).getD (Int.toNat i) ((true, []), (true, []))).2).2) r.2).bind fun r1 =>
(laws_markCommandS_L0 (a.1, ((a.2.set (Int.toNat i) ((r.1.1, r.1.2), (a.2.getD (Int.toNat i) ((true, []), (true, []))).2)).set (Int.toNat i) (((a.2.set (Int.toNat i) ((r.1.1, r.1.2), (a.2.getD (Int.toNat i) ((true, []), (true, []))).2)).getD (Int.toNat i) ((true, []), (true, []))).1, (r1.1.1, r1.1.2)))) r1.2 (IntKind.i64.wrap (i + 1))).bind fun r => some r
else none
else none
else none
else none
else 
 some ((a.1, a.2), k_) := Eq.trans (inf_loop_eq (H := H) 44 0 (loopCode Tryz.f44 0) (a, (k_, i)) key_laws_markCommandS) (by kernel_rfl)
theorem laws_markCommandS_eq (a : Bool × List DCommand) (k_ : Int) : laws_markCommandS a k_ =
(laws_markCommandS_L0 (a.1, a.2) k_ 0).bind fun r =>
 some ((r.1.1, r.1.2), r.2) := Eq.trans (inf_call_eq (H := H) 44 (a, k_)) (by kernel_rfl)
theorem laws_markProgram_eq (a0_0 : Int) (a0_1 : Int) (a0_2 : Bool × List DNode) (a0_3 : Bool × List DCommand) (k_ : Int) : laws_markProgram a0_0 a0_1 a0_2 a0_3 k_ =
(laws_markNodeS (a0_2.1, a0_2.2) k_).bind fun r =>
(laws_markCommandS (a0_3.1, a0_3.2) r.2).bind fun r1 =>
 some ((r.1.1, r.1.2), ((r1.1.1, r1.1.2), r1.2)) := Eq.trans (inf_call_eq (H := H) 16 (a0_0, (a0_1, (a0_2, (a0_3, k_))))) (by kernel_rfl)
theorem laws_markIntS_L0_eq (a : Bool × List Int) (k_ : Int) (i : Int) : laws_markIntS_L0 a k_ i =
 bif decide (i < (a.2.length : Int)) then
 bif decide (0 ≤ i) then
 bif decide (i < (a.2.length : Int)) then
(laws_markIntS_L0 (a.1, (a.2.set (Int.toNat i) k_)) (IntKind.i64.wrap (k_ + 1)) (IntKind.i64.wrap (i + 1))).bind fun r => some r
else none
else none
else 
 some ((a.1, a.2), k_) := Eq.trans (inf_loop_eq (H := H) 18 0 (loopCode Tryz.f18 0) (a, (k_, i)) key_laws_markIntS) (by kernel_rfl)
theorem laws_markIntS_eq (a : Bool × List Int) (k_ : Int) : laws_markIntS a k_ =
(laws_markIntS_L0 (a.1, a.2) k_ 0).bind fun r =>
 some ((r.1.1, r.1.2), r.2) := Eq.trans (inf_call_eq (H := H) 18 (a, k_)) (by kernel_rfl)
theorem laws_markSight_eq (a : Bool × List Int) (k_ : Int) : laws_markSight a k_ =
(laws_markIntS (a.1, a.2) k_).bind fun r =>
 some ((r.1.1, r.1.2), r.2) := Eq.trans (inf_call_eq (H := H) 17 (a, k_)) (by kernel_rfl)
theorem laws_heldIntS_L0_eq (a : Bool × List Int) (k_ : Int) (i : Int) : laws_heldIntS_L0 a k_ i =
 bif decide (i < (a.2.length : Int)) then
 bif decide (0 ≤ i) then
 bif decide (i < (a.2.length : Int)) then
 bif ((a.2.getD (Int.toNat i) 0) != k_) then
 some (.inl (-1))
else 
(laws_heldIntS_L0 a (IntKind.i64.wrap (k_ + 1)) (IntKind.i64.wrap (i + 1))).bind fun r => some r
else none
else none
else 
 some (.inr k_) := Eq.trans (inf_loop_eq (H := H) 19 0 (loopCode Tryz.f19 0) (a, (k_, i)) key_laws_heldIntS) (by kernel_rfl)
theorem laws_heldIntS_eq (a : Bool × List Int) (k_ : Int) : laws_heldIntS a k_ =
(laws_heldIntS_L0 a k_ 0).bind fun r =>
 match r with
| .inl y =>
 some y
| .inr z =>
 some z := Eq.trans (inf_call_eq (H := H) 19 (a, k_)) (by kernel_rfl)
theorem laws_FnExactClassStarts_eq (aP : DProgram) (aV : DSight) : laws_FnExactClassStarts aP aV =
(laws_szProgram aP 1048576).bind fun r =>
 bif decide (r < 0) then
 some true
else 
(laws_szSight aV r).bind fun r1 =>
 bif decide (r1 < 0) then
 some true
else 
(laws_toProgram aP).bind fun r2 =>
(laws_toSight aV).bind fun r3 =>
(spec_ClassStarts (r2.1, (r2.2.1, ((r2.2.2.1.1, r2.2.2.1.2), (r2.2.2.2.1, r2.2.2.2.2)))) (r3.1, r3.2)).bind fun r4 =>
(laws_toProgram aP).bind fun r5 =>
(laws_toSight aV).bind fun r6 =>
(impl_ClassStarts (r5.1, (r5.2.1, ((r5.2.2.1.1, r5.2.2.1.2), (r5.2.2.2.1, r5.2.2.2.2)))) (r6.1, r6.2)).bind fun r7 =>
(laws_eqIntS (r7.1.1, r7.1.2) r4.1).bind fun r8 =>
 bif !r8 then
 some false
else 
 bif !(r7.2 == r4.2) then
 some false
else 
(laws_toProgram aP).bind fun r9 =>
(laws_eqProgram (r5.1, (r5.2.1, ((r5.2.2.1.1, r5.2.2.1.2), (r5.2.2.2.1, r5.2.2.2.2)))) (r9.1, (r9.2.1, ((r9.2.2.1.1, r9.2.2.1.2), (r9.2.2.2.1, r9.2.2.2.2))))).bind fun r10 =>
 bif !r10 then
 some false
else 
(laws_toSight aV).bind fun r11 =>
(laws_eqSight (r6.1, r6.2) (r11.1, r11.2)).bind fun r12 =>
 bif !r12 then
 some false
else 
(laws_markProgram r5.1 r5.2.1 (r5.2.2.1.1, r5.2.2.1.2) (r5.2.2.2.1, r5.2.2.2.2) 1).bind fun r13 =>
(laws_markSight (r6.1, r6.2) r13.2.2).bind fun r14 =>
 bif decide (r14.2 < 0) then
 some false
else 
(laws_eqIntS (r7.1.1, r7.1.2) r4.1).bind fun r15 =>
 bif !r15 then
 some false
else 
 bif !(r7.2 == r4.2) then
 some false
else 
(laws_markIntS (r7.1.1, r7.1.2) 1).bind fun r16 =>
(laws_heldIntS (r16.1.1, r16.1.2) 1).bind fun r17 =>
 bif decide (r17 < 0) then
 some false
else 
 bif (r17 != r16.2) then
 some false
else 
(laws_toProgram aP).bind fun r18 =>
(laws_toSight aV).bind fun r19 =>
(impl_ClassStarts (r18.1, (r18.2.1, ((r18.2.2.1.1, r18.2.2.1.2), (r18.2.2.2.1, r18.2.2.2.2)))) (r19.1, r19.2)).bind fun r20 =>
(laws_eqIntS (r20.1.1, r20.1.2) r4.1).bind fun r21 =>
 bif !r21 then
 some false
else 
 bif !(r20.2 == r4.2) then
 some false
else 
(laws_heldIntS (r16.1.1, r16.1.2) 1).bind fun r22 =>
 bif decide (r22 < 0) then
 some false
else 
 bif (r22 != r16.2) then
 some false
else 
 some true := Eq.trans (inf_call_eq (H := H) 3 (aP, aV)) (by kernel_rfl)
theorem fit : Fit Tryz.prog H := fit_of (exts := extsL) (tys := tysL) (cells := cellsL) (keys := keysL) rfl rfl rfl rfl (by kernel_rfl) (by kernel_rfl) ⟨⟨Tryz.func30, by kernel_rfl, by kernel_rfl⟩, ⟨Tryz.func110, by kernel_rfl, by kernel_rfl⟩, ⟨Tryz.func91, by kernel_rfl, by kernel_rfl⟩, ⟨Tryz.func64, by kernel_rfl, by kernel_rfl⟩, ⟨Tryz.func31, by kernel_rfl, by kernel_rfl⟩, ⟨Tryz.func7, by kernel_rfl, by kernel_rfl⟩, ⟨Tryz.func32, by kernel_rfl, by kernel_rfl⟩, ⟨Tryz.func8, by kernel_rfl, by kernel_rfl⟩, ⟨Tryz.func68, by kernel_rfl, by kernel_rfl⟩, ⟨Tryz.func36, by kernel_rfl, by kernel_rfl⟩, ⟨Tryz.func115, by kernel_rfl, by kernel_rfl⟩, ⟨Tryz.func93, by kernel_rfl, by kernel_rfl⟩, ⟨Tryz.func69, by kernel_rfl, by kernel_rfl⟩, ⟨Tryz.func37, by kernel_rfl, by kernel_rfl⟩, ⟨Tryz.func10, by kernel_rfl, by kernel_rfl⟩, ⟨Tryz.func21, by kernel_rfl, by kernel_rfl⟩, ⟨Tryz.func11, by kernel_rfl, by kernel_rfl⟩, ⟨Tryz.func46, by kernel_rfl, by kernel_rfl⟩, ⟨Tryz.func141, by kernel_rfl, by kernel_rfl⟩, ⟨Tryz.func111, by kernel_rfl, by kernel_rfl⟩, ⟨Tryz.func112, by kernel_rfl, by kernel_rfl⟩, ⟨Tryz.func154, by kernel_rfl, by kernel_rfl⟩, ⟨Tryz.func142, by kernel_rfl, by kernel_rfl⟩, ⟨Tryz.func118, by kernel_rfl, by kernel_rfl⟩, ⟨Tryz.func98, by kernel_rfl, by kernel_rfl⟩, ⟨Tryz.func99, by kernel_rfl, by kernel_rfl⟩, ⟨Tryz.func78, by kernel_rfl, by kernel_rfl⟩, ⟨Tryz.func45, by kernel_rfl, by kernel_rfl⟩, ⟨Tryz.func48, by kernel_rfl, by kernel_rfl⟩, ⟨Tryz.func33, by kernel_rfl, by kernel_rfl⟩, ⟨Tryz.func67, by kernel_rfl, by kernel_rfl⟩, ⟨Tryz.func114, by kernel_rfl, by kernel_rfl⟩, ⟨Tryz.func151, by kernel_rfl, by kernel_rfl⟩, ⟨Tryz.func133, by kernel_rfl, by kernel_rfl⟩, ⟨Tryz.func134, by kernel_rfl, by kernel_rfl⟩, ⟨Tryz.func135, by kernel_rfl, by kernel_rfl⟩, ⟨Tryz.func136, by kernel_rfl, by kernel_rfl⟩, ⟨Tryz.func113, by kernel_rfl, by kernel_rfl⟩, ⟨Tryz.func92, by kernel_rfl, by kernel_rfl⟩, ⟨Tryz.func66, by kernel_rfl, by kernel_rfl⟩, ⟨Tryz.func35, by kernel_rfl, by kernel_rfl⟩, ⟨Tryz.func65, by kernel_rfl, by kernel_rfl⟩, ⟨Tryz.func34, by kernel_rfl, by kernel_rfl⟩, ⟨Tryz.func9, by kernel_rfl, by kernel_rfl⟩, ⟨Tryz.func100, by kernel_rfl, by kernel_rfl⟩, ⟨Tryz.func101, by kernel_rfl, by kernel_rfl⟩, ⟨Tryz.func155, by kernel_rfl, by kernel_rfl⟩, ⟨Tryz.func96, by kernel_rfl, by kernel_rfl⟩, ⟨Tryz.func160, by kernel_rfl, by kernel_rfl⟩, ⟨Tryz.func156, by kernel_rfl, by kernel_rfl⟩, ⟨Tryz.func158, by kernel_rfl, by kernel_rfl⟩, ⟨Tryz.func162, by kernel_rfl, by kernel_rfl⟩, ⟨Tryz.func157, by kernel_rfl, by kernel_rfl⟩, ⟨Tryz.func143, by kernel_rfl, by kernel_rfl⟩, ⟨Tryz.func144, by kernel_rfl, by kernel_rfl⟩, ⟨Tryz.func119, by kernel_rfl, by kernel_rfl⟩, ⟨Tryz.func102, by kernel_rfl, by kernel_rfl⟩, ⟨Tryz.func105, by kernel_rfl, by kernel_rfl⟩, ⟨Tryz.func104, by kernel_rfl, by kernel_rfl⟩, ⟨Tryz.func120, by kernel_rfl, by kernel_rfl⟩, ⟨Tryz.func103, by kernel_rfl, by kernel_rfl⟩, ⟨Tryz.func81, by kernel_rfl, by kernel_rfl⟩, ⟨Tryz.func50, by kernel_rfl, by kernel_rfl⟩, ⟨Tryz.func53, by kernel_rfl, by kernel_rfl⟩, ⟨Tryz.func70, by kernel_rfl, by kernel_rfl⟩, ⟨Tryz.func38, by kernel_rfl, by kernel_rfl⟩, ⟨Tryz.func74, by kernel_rfl, by kernel_rfl⟩, ⟨Tryz.func152, by kernel_rfl, by kernel_rfl⟩, ⟨Tryz.func153, by kernel_rfl, by kernel_rfl⟩, ⟨Tryz.func137, by kernel_rfl, by kernel_rfl⟩, ⟨Tryz.func138, by kernel_rfl, by kernel_rfl⟩, ⟨Tryz.func139, by kernel_rfl, by kernel_rfl⟩, ⟨Tryz.func140, by kernel_rfl, by kernel_rfl⟩, ⟨Tryz.func116, by kernel_rfl, by kernel_rfl⟩, ⟨Tryz.func95, by kernel_rfl, by kernel_rfl⟩, ⟨Tryz.func73, by kernel_rfl, by kernel_rfl⟩, ⟨Tryz.func40, by kernel_rfl, by kernel_rfl⟩, ⟨Tryz.func94, by kernel_rfl, by kernel_rfl⟩, ⟨Tryz.func71, by kernel_rfl, by kernel_rfl⟩, ⟨Tryz.func72, by kernel_rfl, by kernel_rfl⟩, ⟨Tryz.func39, by kernel_rfl, by kernel_rfl⟩, ⟨Tryz.func12, by kernel_rfl, by kernel_rfl⟩, ⟨Tryz.func13, by kernel_rfl, by kernel_rfl⟩, ⟨Tryz.func75, by kernel_rfl, by kernel_rfl⟩, ⟨Tryz.func41, by kernel_rfl, by kernel_rfl⟩, ⟨Tryz.func117, by kernel_rfl, by kernel_rfl⟩, ⟨Tryz.func97, by kernel_rfl, by kernel_rfl⟩, ⟨Tryz.func76, by kernel_rfl, by kernel_rfl⟩, ⟨Tryz.func42, by kernel_rfl, by kernel_rfl⟩, ⟨Tryz.func14, by kernel_rfl, by kernel_rfl⟩, ⟨Tryz.func15, by kernel_rfl, by kernel_rfl⟩, ⟨Tryz.func43, by kernel_rfl, by kernel_rfl⟩, ⟨Tryz.func77, by kernel_rfl, by kernel_rfl⟩, ⟨Tryz.func44, by kernel_rfl, by kernel_rfl⟩, ⟨Tryz.func16, by kernel_rfl, by kernel_rfl⟩, ⟨Tryz.func18, by kernel_rfl, by kernel_rfl⟩, ⟨Tryz.func17, by kernel_rfl, by kernel_rfl⟩, ⟨Tryz.func19, by kernel_rfl, by kernel_rfl⟩, ⟨Tryz.func3, by kernel_rfl, by kernel_rfl⟩, trivial⟩ trivial (by kernel_rfl)
end Go.Proofs.YtibhhmehjbdjhaaGreat.R
