/- Kinds, signatures and loops of the functions that the laws reach, and what each computes. -/
import Derived.Test.YtedfhboklcfanaaRfE
import Derived.Test.YtedfhboklcfanaaProg
import Derived.KernelRfl
import Derived.Test.YtedfhboklcfanaaBack
set_option linter.unusedVariables false
namespace Go.Proofs.Ytedfhboklcfanaa.R
open Go.Rf Go.Proofs
def tyNode : Ty := (.pair (.int .i64) (.int .u64))
abbrev DNode := Int × Int
def tyboundsError : Ty := (.pair (.int .i64) (.pair (.int .i64) (.pair .bool (.int .u8))))
abbrev DboundsError := Int × Int × Bool × Int
def tyChange : Ty := (.pair (.int .i64) (.sl tyNode))
abbrev DChange := Int × Bool × List DNode
def tyCommand : Ty := (.pair (.sl tyNode) (.sl tyChange))
abbrev DCommand := (Bool × List DNode) × Bool × List DChange
def tyProgram : Ty := (.pair (.int .i64) (.pair (.int .i64) (.pair (.sl tyNode) (.sl tyCommand))))
abbrev DProgram := Int × Int × (Bool × List DNode) × Bool × List DCommand
noncomputable def h_laws_szNodeS : FnH := ⟨5, Try.f5, (.tup (.v (.sl tyNode)) (.tup (.v (.int .i64)) .unit)), (.tup (.v (.int .i64)) .unit), [], [], [], [], [], none⟩
noncomputable def h_laws_szChange : FnH := ⟨66, Try.f66, (.tup (.v tyChange) (.tup (.v (.int .i64)) .unit)), (.tup (.v (.int .i64)) .unit), [], [], [], [], [], none⟩
noncomputable def h_laws_szChangeS : FnH := ⟨50, Try.f50, (.tup (.v (.sl tyChange)) (.tup (.v (.int .i64)) .unit)), (.tup (.v (.int .i64)) .unit), [], [], [(0, ⟨[(0, (.v (.sl tyChange))), (1, (.v (.int .i64))), (5, (.v (.int .i64)))], [(.ret, [(4, (.v (.int .i64)))]), (.exit 0, [(1, (.v (.int .i64)))])], []⟩)], [], [], none⟩
noncomputable def h_laws_szCommand : FnH := ⟨34, Try.f34, (.tup (.v tyCommand) (.tup (.v (.int .i64)) .unit)), (.tup (.v (.int .i64)) .unit), [], [], [], [], [], none⟩
noncomputable def h_laws_szCommandS : FnH := ⟨18, Try.f18, (.tup (.v (.sl tyCommand)) (.tup (.v (.int .i64)) .unit)), (.tup (.v (.int .i64)) .unit), [], [], [(0, ⟨[(0, (.v (.sl tyCommand))), (1, (.v (.int .i64))), (5, (.v (.int .i64)))], [(.ret, [(4, (.v (.int .i64)))]), (.exit 0, [(1, (.v (.int .i64)))])], []⟩)], [], [], none⟩
noncomputable def h_laws_szProgram : FnH := ⟨4, Try.f4, (.tup (.v tyProgram) (.tup (.v (.int .i64)) .unit)), (.tup (.v (.int .i64)) .unit), [], [], [], [], [], none⟩
noncomputable def h_laws_toNode : FnH := ⟨23, Try.f23, (.tup (.v tyNode) .unit), (.tup (.v tyNode) .unit), [], [], [], [], [], none⟩
noncomputable def h_laws_toNodeS : FnH := ⟨9, Try.f9, (.tup (.v (.sl tyNode)) .unit), (.tup (.own 206850 tyNode true) .unit), [], [], [(0, ⟨[(0, (.v (.sl tyNode))), (3, (.own 206849 tyNode true)), (4, (.v (.int .i64)))], [(.exit 0, [(1206849, (.own 206849 tyNode true))])], [3]⟩)], [], [], none⟩
noncomputable def h_laws_toChange : FnH := ⟨70, Try.f70, (.tup (.v tyChange) .unit), (.tup (.pair (.v (.int .i64)) (.own 206851 tyNode true)) .unit), [], [], [], [], [], none⟩
noncomputable def h_laws_toChangeS : FnH := ⟨55, Try.f55, (.tup (.v (.sl tyChange)) .unit), (.tup (.own 206853 tyChange true) .unit), [], [], [(0, ⟨[(0, (.v (.sl tyChange))), (3, (.own 206852 tyChange true)), (4, (.v (.int .i64)))], [(.exit 0, [(1206852, (.own 206852 tyChange true))])], [3]⟩)], [], [], none⟩
noncomputable def h_laws_toCommand : FnH := ⟨40, Try.f40, (.tup (.v tyCommand) .unit), (.tup (.pair (.own 206854 tyNode true) (.own 206855 tyChange true)) .unit), [], [], [], [], [], none⟩
noncomputable def h_laws_toCommandS : FnH := ⟨22, Try.f22, (.tup (.v (.sl tyCommand)) .unit), (.tup (.own 206857 tyCommand true) .unit), [], [], [(0, ⟨[(0, (.v (.sl tyCommand))), (3, (.own 206856 tyCommand true)), (4, (.v (.int .i64)))], [(.exit 0, [(1206856, (.own 206856 tyCommand true))])], [3]⟩)], [], [], none⟩
noncomputable def h_laws_toProgram : FnH := ⟨7, Try.f7, (.tup (.v tyProgram) .unit), (.tup (.pair (.v (.int .i64)) (.pair (.v (.int .i64)) (.pair (.own 206858 tyNode true) (.own 206859 tyCommand true)))) .unit), [], [], [], [], [], none⟩
noncomputable def h_laws_toIntS : FnH := ⟨8, Try.f8, (.tup (.v (.sl (.int .i64))) .unit), (.tup (.own 206861 (.int .i64) true) .unit), [], [], [(0, ⟨[(0, (.v (.sl (.int .i64)))), (3, (.own 206860 (.int .i64) true)), (4, (.v (.int .i64)))], [(.exit 0, [(1206860, (.own 206860 (.int .i64) true))])], [3]⟩)], [], [], none⟩
noncomputable def h_spec_l1In : FnH := ⟨36, Try.f36, (.tup (.v (.int .i64)) (.tup (.v (.int .i64)) (.tup (.v (.int .i64)) .unit))), (.tup (.v .bool) .unit), [], [], [], [], [], none⟩
noncomputable def h_spec_l1Wide : FnH := ⟨67, Try.f67, (.tup (.v (.int .i64)) .unit), (.tup (.v .bool) .unit), [], [], [], [], [], none⟩
noncomputable def h_spec_l2Need : FnH := ⟨68, Try.f68, (.tup (.v (.int .i64)) .unit), (.tup (.v (.int .i64)) (.tup (.v (.int .i64)) (.tup (.v (.int .i64)) .unit))), [], [], [], [], [], none⟩
noncomputable def h_spec_l1Cut : FnH := ⟨82, Try.f82, (.tup (.v (.int .i64)) (.tup (.v (.int .u64)) .unit)), (.tup (.v (.int .u64)) .unit), [], [], [(0, ⟨[(0, (.v (.int .i64))), (1, (.v (.int .u64))), (5, (.v (.int .u64))), (6, (.v (.int .i64)))], [(.exit 0, [(5, (.v (.int .u64)))])], []⟩)], [], [], none⟩
noncomputable def h_spec_GoodWord : FnH := ⟨79, Try.f79, (.tup (.v (.int .i64)) (.tup (.v (.int .u64)) .unit)), (.tup (.v .bool) .unit), [], [], [], [], [], none⟩
noncomputable def h_spec_l2N : FnH := ⟨69, Try.f69, (.tup (.v (.int .i64)) (.tup (.v (.int .i64)) (.tup (.v tyNode) .unit))), (.tup (.v .bool) .unit), [], [], [], [], [], none⟩
noncomputable def h_spec_l2Kind : FnH := ⟨52, Try.f52, (.tup (.v (.int .i64)) (.tup (.v (.int .i64)) (.tup (.v (.sl tyNode)) .unit))), (.tup (.v (.int .i64)) .unit), [], [], [(0, ⟨[(0, (.v (.int .i64))), (1, (.v (.int .i64))), (7, (.own 206862 (.int .i64) true)), (27, (.v (.sl tyNode))), (28, (.v (.int .i64))), (29, (.v (.int .i64)))], [(.ret, [(6, (.v (.int .i64)))]), (.exit 0, [(7, (.own 206865 (.int .i64) true))])], []⟩), (2, ⟨[(0, (.v (.int .i64))), (1, (.v (.int .i64))), (7, (.own 206863 (.int .i64) true)), (10, (.v (.int .i64))), (11, (.v (.int .i64))), (12, (.v (.int .i64))), (27, (.v (.sl tyNode))), (28, (.v (.int .i64))), (29, (.v (.int .i64)))], [(.ret, [(6, (.v (.int .i64)))]), (.exit 2, [(7, (.own 206864 (.int .i64) true))])], [0, 1, 12, 27, 28, 29]⟩)], [], [], none⟩
noncomputable def h_spec_l7Asks : FnH := ⟨37, Try.f37, (.tup (.v tyProgram) (.tup (.v (.sl tyNode)) .unit)), (.tup (.v .bool) .unit), [], [], [], [], [], none⟩
noncomputable def h_spec_l7Command : FnH := ⟨51, Try.f51, (.tup (.v tyProgram) (.tup (.v tyCommand) .unit)), (.tup (.v .bool) .unit), [], [], [(0, ⟨[(2, (.sp tyProgram)), (3, (.sp tyCommand)), (21, (.v (.sl tyChange))), (22, (.v (.int .i64))), (23, (.v (.int .i64)))], [(.ret, [(4, (.v .bool))]), (.exit 0, [])], []⟩)], [], [], none⟩
noncomputable def h_spec_GoodProgram : FnH := ⟨35, Try.f35, (.tup (.v tyProgram) .unit), (.tup (.v .bool) .unit), [], [], [(0, ⟨[(1, (.sp tyProgram)), (18, (.v (.sl tyCommand))), (19, (.v (.int .i64))), (20, (.v (.int .i64)))], [(.ret, [(2, (.v .bool))]), (.exit 0, [])], []⟩)], [], [], none⟩
noncomputable def h_spec_l16Asked : FnH := ⟨19, Try.f19, (.tup (.v tyProgram) (.tup (.v (.int .i64)) (.tup (.v (.sl tyNode)) .unit))), (.tup (.v .bool) .unit), [], [], [], [], [], none⟩
noncomputable def h_spec_l1All : FnH := ⟨20, Try.f20, (.tup (.v (.sl (.int .i64))) (.tup (.v (.int .i64)) (.tup (.v (.int .i64)) .unit))), (.tup (.v .bool) .unit), [], [], [(0, ⟨[(1, (.v (.int .i64))), (2, (.v (.int .i64))), (9, (.v (.sl (.int .i64)))), (10, (.v (.int .i64))), (11, (.v (.int .i64)))], [(.ret, [(6, (.v .bool))]), (.exit 0, [])], []⟩)], [], [], none⟩
noncomputable def h_spec_GoodTerm : FnH := ⟨54, Try.f54, (.tup (.v (.int .i64)) (.tup (.v (.int .i64)) (.tup (.v (.sl tyNode)) .unit))), (.tup (.v .bool) .unit), [], [], [], [], [], none⟩
noncomputable def h_spec_l2Made : FnH := ⟨39, Try.f39, (.tup (.v (.int .i64)) (.tup (.v (.int .i64)) (.tup (.v (.sl tyNode)) .unit))), (.tup (.v (.sl tyNode)) (.tup (.v .bool) .unit)), [], [], [], [], [], none⟩
noncomputable def h_spec_PutAll : FnH := ⟨53, Try.f53, (.tup (.v (.int .i64)) (.tup (.v (.int .i64)) (.tup (.v (.sl tyNode)) (.tup (.v (.sl (.sl tyNode))) .unit)))), (.tup (.v (.sl tyNode)) (.tup (.v .bool) .unit)), [], [], [(0, ⟨[(0, (.v (.int .i64))), (1, (.v (.int .i64))), (2, (.v (.sl tyNode))), (3, (.v (.sl (.sl tyNode)))), (26, (.v (.sl (.sl tyNode)))), (27, (.v (.int .i64))), (28, (.v (.int .i64)))], [(.ret, [(8, (.nl tyNode)), (9, (.v .bool))]), (.exit 0, [])], [0, 1, 2, 3]⟩), (2, ⟨[(0, (.v (.int .i64))), (1, (.v (.int .i64))), (3, (.v (.sl (.sl tyNode)))), (12, (.own 206870 tyNode true)), (38, (.v (.sl tyNode))), (39, (.v (.int .i64))), (40, (.v (.int .i64)))], [(.exit 2, [(12, (.own 206871 tyNode true))])], [0, 1]⟩)], [], [], none⟩
noncomputable def h_spec_l16One : FnH := ⟨38, Try.f38, (.tup (.v tyProgram) (.tup (.v (.int .i64)) (.tup (.v (.sl tyNode)) .unit))), (.tup (.v (.sl tyNode)) (.tup (.v .bool) .unit)), [], [], [(0, ⟨[(1, (.v (.int .i64))), (2, (.v (.sl tyNode))), (3, (.sp tyProgram)), (8, (.own 206867 (.sl tyNode) true)), (9, (.v (.int .i64)))], [(.exit 0, [(8, (.own 206868 (.sl tyNode) true))])], [1, 2, 3]⟩), (2, ⟨[(2, (.v (.sl tyNode))), (3, (.sp tyProgram)), (8, (.own 206869 (.sl tyNode) false)), (30, (.v (.sl tyChange))), (31, (.v (.int .i64))), (32, (.v (.int .i64)))], [(.exit 2, [(1206869, (.own 206869 (.sl tyNode) false))])], [2, 3, 8]⟩)], [], [], none⟩
noncomputable def h_spec_l16If : FnH := ⟨21, Try.f21, (.tup (.v tyProgram) (.tup (.v (.int .i64)) (.tup (.v (.sl tyNode)) .unit))), (.tup (.v (.sl tyNode)) (.tup (.v .bool) .unit)), [], [], [], [], [], none⟩
noncomputable def h_spec_AlongBefore : FnH := ⟨6, Try.f6, (.tup (.v tyProgram) (.tup (.v (.sl (.int .i64))) (.tup (.v (.sl tyNode)) .unit))), (.tup (.v (.sl tyNode)) (.tup (.v .bool) .unit)), [], [], [(0, ⟨[(1, (.v (.sl (.int .i64)))), (3, (.sp tyProgram)), (8, (.v (.sl tyNode))), (9, (.v (.int .i64)))], [(.ret, [(1206866, .any), (6, (.nl tyNode)), (7, (.v .bool))]), (.exit 0, [(8, (.v (.sl tyNode)))])], []⟩)], [], [], none⟩
noncomputable def h_impl_isWide : FnH := ⟨56, Try.f56, (.tup (.v (.int .i64)) .unit), (.tup (.v .bool) .unit), [], [], [], [], [], none⟩
noncomputable def h_impl_isVars : FnH := ⟨57, Try.f57, (.tup (.v (.int .i64)) .unit), (.tup (.v .bool) .unit), [], [], [], [], [], none⟩
noncomputable def h_impl_operandsOf : FnH := ⟨75, Try.f75, (.tup (.v (.int .i64)) .unit), (.tup (.v (.int .i64)) (.tup (.v (.int .i64)) (.tup (.v (.int .i64)) .unit))), [], [], [], [], [], none⟩
noncomputable def h_impl_mask : FnH := ⟨83, Try.f83, (.tup (.v (.int .i64)) .unit), (.tup (.v (.int .u64)) .unit), [], [], [], [], [], none⟩
noncomputable def h_impl_GoodWord : FnH := ⟨81, Try.f81, (.tup (.v (.int .i64)) (.tup (.v (.int .u64)) .unit)), (.tup (.v .bool) .unit), [], [], [], [], [], none⟩
noncomputable def h_impl_isLeafRight : FnH := ⟨76, Try.f76, (.tup (.v (.int .i64)) (.tup (.v (.int .i64)) (.tup (.v tyNode) .unit))), (.tup (.v .bool) .unit), [], [], [], [], [], none⟩
noncomputable def h_impl_GoodTerm_1 : FnH := ⟨77, Try.f77, (.tup (.v (.int .i64)) (.tup (.sp (.int .i64)) .unit)), (.tup (.v .bool) .unit), [], [], [], [], [], none⟩
noncomputable def h_slices_IndexFunc_int_by_GoodTerm_1 : FnH := ⟨43, Try.f43, (.tup (.v (.sl (.int .i64))) (.tup (.v (.fn 77 (.pair (.int .i64) .nil))) .unit)), (.tup (.v (.int .i64)) .unit), [], [], [(0, ⟨[(0, (.v (.sl (.int .i64)))), (1, (.v (.fn 77 (.pair (.int .i64) .nil)))), (7, (.v (.int .i64))), (8, (.v (.int .i64)))], [(.ret, [(4, (.v (.int .i64)))]), (.exit 0, [])], []⟩)], [], [], none⟩
noncomputable def h_slices_ContainsFunc_int_by_GoodTerm_1 : FnH := ⟨25, Try.f25, (.tup (.v (.sl (.int .i64))) (.tup (.v (.fn 77 (.pair (.int .i64) .nil))) .unit)), (.tup (.v .bool) .unit), [], [], [], [], [], none⟩
noncomputable def h_impl_GoodTerm : FnH := ⟨63, Try.f63, (.tup (.v (.int .i64)) (.tup (.v (.int .i64)) (.tup (.v (.sl tyNode)) .unit))), (.tup (.v .bool) .unit), [], [], [(0, ⟨[(0, (.v (.int .i64))), (1, (.v (.int .i64))), (7, (.own 206872 (.int .i64) true)), (33, (.v (.sl tyNode))), (34, (.v (.int .i64))), (35, (.v (.int .i64)))], [(.ret, [(6, (.v .bool))]), (.exit 0, [(7, (.own 206873 (.int .i64) true))])], []⟩)], [], [], none⟩
noncomputable def h_impl_kindOf : FnH := ⟨72, Try.f72, (.tup (.v (.sl tyNode)) .unit), (.tup (.v (.int .i64)) .unit), [], [], [], [], [], none⟩
noncomputable def h_impl_isTermOf : FnH := ⟨61, Try.f61, (.tup (.v (.int .i64)) (.tup (.v (.int .i64)) (.tup (.v (.sl tyNode)) (.tup (.v (.int .i64)) .unit)))), (.tup (.v .bool) .unit), [], [], [], [], [], none⟩
noncomputable def h_impl_Program_isCondition : FnH := ⟨42, Try.f42, (.tup (.v tyProgram) (.tup (.v (.sl tyNode)) .unit)), (.tup (.v .bool) .unit), [], [], [], [], [], none⟩
noncomputable def h_impl_Program_isCommand : FnH := ⟨60, Try.f60, (.tup (.v tyProgram) (.tup (.v tyCommand) .unit)), (.tup (.v .bool) .unit), [], [], [(0, ⟨[(2, (.sp tyProgram)), (3, (.sp tyCommand)), (13, (.v (.sl tyChange))), (14, (.v (.int .i64))), (15, (.v (.int .i64)))], [(.ret, [(4, (.v .bool))]), (.exit 0, [])], []⟩)], [], [], none⟩
noncomputable def h_impl_GoodProgram_1 : FnH := ⟨59, Try.f59, (.tup (.v tyCommand) (.tup (.sp tyProgram) .unit)), (.tup (.v .bool) .unit), [], [], [], [], [], none⟩
noncomputable def h_slices_IndexFunc_Command_by_GoodProgram_1 : FnH := ⟨71, Try.f71, (.tup (.v (.sl tyCommand)) (.tup (.v (.fn 59 (.pair tyProgram .nil))) .unit)), (.tup (.v (.int .i64)) .unit), [], [], [(0, ⟨[(0, (.v (.sl tyCommand))), (1, (.v (.fn 59 (.pair tyProgram .nil)))), (7, (.v (.int .i64))), (8, (.v (.int .i64)))], [(.ret, [(4, (.v (.int .i64)))]), (.exit 0, [])], []⟩)], [], [], none⟩
noncomputable def h_slices_ContainsFunc_Command_by_GoodProgram_1 : FnH := ⟨58, Try.f58, (.tup (.v (.sl tyCommand)) (.tup (.v (.fn 59 (.pair tyProgram .nil))) .unit)), (.tup (.v .bool) .unit), [], [], [], [], [], none⟩
noncomputable def h_impl_GoodProgram : FnH := ⟨41, Try.f41, (.tup (.v tyProgram) .unit), (.tup (.v .bool) .unit), [], [], [], [], [], none⟩
noncomputable def h_impl_Program_isCommandNo : FnH := ⟨27, Try.f27, (.tup (.v tyProgram) (.tup (.v (.int .i64)) .unit)), (.tup (.v .bool) .unit), [], [], [], [], [], none⟩
noncomputable def h_impl_isBefore : FnH := ⟨24, Try.f24, (.tup (.v tyProgram) (.tup (.v (.int .i64)) (.tup (.v (.sl tyNode)) .unit))), (.tup (.v .bool) .unit), [], [], [], [], [], none⟩
noncomputable def h_impl_AlongBefore_1 : FnH := ⟨26, Try.f26, (.tup (.v (.int .i64)) (.tup (.sp tyProgram) .unit)), (.tup (.v .bool) .unit), [], [], [], [], [], none⟩
noncomputable def h_slices_IndexFunc_int_by_AlongBefore_1 : FnH := ⟨43, Try.f43, (.tup (.v (.sl (.int .i64))) (.tup (.v (.fn 26 (.pair tyProgram .nil))) .unit)), (.tup (.v (.int .i64)) .unit), [], [], [(0, ⟨[(0, (.v (.sl (.int .i64)))), (1, (.v (.fn 26 (.pair tyProgram .nil)))), (7, (.v (.int .i64))), (8, (.v (.int .i64)))], [(.ret, [(4, (.v (.int .i64)))]), (.exit 0, [])], []⟩)], [], [], none⟩
noncomputable def h_slices_ContainsFunc_int_by_AlongBefore_1 : FnH := ⟨25, Try.f25, (.tup (.v (.sl (.int .i64))) (.tup (.v (.fn 26 (.pair tyProgram .nil))) .unit)), (.tup (.v .bool) .unit), [], [(7, 10055)], [], [], [], none⟩
noncomputable def h_slices_Clone_Node : FnH := ⟨28, Try.f28, (.tup (.v (.sl tyNode)) .unit), (.tup (.own 206874 tyNode true) .unit), [], [], [], [], [], none⟩
noncomputable def h_impl_PutAll_1 : FnH := ⟨74, Try.f74, (.tup (.v (.sl tyNode)) (.tup (.sp (.int .i64)) (.tup (.sp (.int .i64)) .unit))), (.tup (.v .bool) .unit), [], [], [], [], [], none⟩
noncomputable def h_slices_IndexFunc_Node_by_PutAll_1 : FnH := ⟨80, Try.f80, (.tup (.v (.sl (.sl tyNode))) (.tup (.v (.fn 74 (.pair (.int .i64) (.pair (.int .i64) .nil)))) .unit)), (.tup (.v (.int .i64)) .unit), [], [], [(0, ⟨[(0, (.v (.sl (.sl tyNode)))), (1, (.v (.fn 74 (.pair (.int .i64) (.pair (.int .i64) .nil))))), (7, (.v (.int .i64))), (8, (.v (.int .i64)))], [(.ret, [(4, (.v (.int .i64)))]), (.exit 0, [])], []⟩)], [], [], none⟩
noncomputable def h_slices_ContainsFunc_Node_by_PutAll_1 : FnH := ⟨73, Try.f73, (.tup (.v (.sl (.sl tyNode))) (.tup (.v (.fn 74 (.pair (.int .i64) (.pair (.int .i64) .nil)))) .unit)), (.tup (.v .bool) .unit), [], [], [], [], [], none⟩
noncomputable def h_impl_checkedTerm : FnH := ⟨46, Try.f46, (.tup (.v (.int .i64)) (.tup (.v (.int .i64)) (.tup (.v (.sl tyNode)) .unit))), (.tup (.v (.sl tyNode)) (.tup (.v .bool) .unit)), [], [], [], [], [], none⟩
noncomputable def h_impl_PutAll : FnH := ⟨62, Try.f62, (.tup (.v (.int .i64)) (.tup (.v (.int .i64)) (.tup (.v (.sl tyNode)) (.tup (.v (.sl (.sl tyNode))) .unit)))), (.tup (.v (.sl tyNode)) (.tup (.v .bool) .unit)), [], [], [(0, ⟨[(3, (.v (.sl (.sl tyNode)))), (4, (.sp (.int .i64))), (5, (.sp (.int .i64))), (10, (.own 206879 tyNode true)), (30, (.v (.sl tyNode))), (31, (.v (.int .i64))), (32, (.v (.int .i64)))], [(.exit 0, [(10, (.own 206880 tyNode true))])], [4, 5]⟩)], [], [], none⟩
noncomputable def h_impl_Program_beforeOne : FnH := ⟨45, Try.f45, (.tup (.v tyProgram) (.tup (.v (.int .i64)) (.tup (.v (.sl tyNode)) .unit))), (.tup (.v (.sl tyNode)) (.tup (.v .bool) .unit)), [], [], [(0, ⟨[(1, (.v (.int .i64))), (2, (.v (.sl tyNode))), (3, (.sp tyProgram)), (8, (.own 206876 (.sl tyNode) true)), (14, (.v (.int .i64))), (15, (.v (.int .i64)))], [(.exit 0, [(8, (.own 206877 (.sl tyNode) true))])], [1, 2, 3]⟩), (2, ⟨[(2, (.v (.sl tyNode))), (3, (.sp tyProgram)), (8, (.own 206878 (.sl tyNode) false)), (31, (.v (.sl tyChange))), (32, (.v (.int .i64))), (33, (.v (.int .i64)))], [(.exit 2, [(1206878, (.own 206878 (.sl tyNode) false))])], [2, 3, 8]⟩)], [], [], none⟩
noncomputable def h_slices_Grow_Node : FnH := ⟨64, Try.f64, (.tup (.nl tyNode) (.tup (.v (.int .i64)) .unit)), (.tup (.own 206881 tyNode true) .unit), [], [], [], [], [], none⟩
noncomputable def h_slices_Concat_Node : FnH := ⟨47, Try.f47, (.tup (.v (.sl (.sl tyNode))) .unit), (.tup (.own 206884 tyNode true) .unit), [], [], [(0, ⟨[(0, (.v (.sl (.sl tyNode)))), (3, (.v (.int .i64))), (9, (.v (.sl (.sl tyNode)))), (10, (.v (.int .i64))), (11, (.v (.int .i64)))], [(.exit 0, [(3, (.v (.int .i64)))])], [0]⟩), (2, ⟨[(6, (.own 206882 tyNode true)), (25, (.v (.sl (.sl tyNode)))), (26, (.v (.int .i64))), (27, (.v (.int .i64)))], [(.exit 2, [(6, (.own 206883 tyNode true))])], []⟩)], [], [], none⟩
noncomputable def h_impl_checkedTerm_2 : FnH := ⟨46, Try.f46, (.tup (.v (.int .i64)) (.tup (.v (.int .i64)) (.tup (.own 206885 tyNode true) .unit))), (.tup .any (.tup (.own 206886 tyNode true) (.tup (.v .bool) .unit))), [206885], [], [], [], [], none⟩
noncomputable def h_impl_Program_beforeIf : FnH := ⟨30, Try.f30, (.tup (.v tyProgram) (.tup (.v (.int .i64)) (.tup (.v (.sl tyNode)) .unit))), (.tup (.own 206887 tyNode true) (.tup (.v .bool) .unit)), [], [(36, 10067)], [], [], [], none⟩
noncomputable def h_impl_AlongBefore : FnH := ⟨10, Try.f10, (.tup (.v tyProgram) (.tup (.v (.sl (.int .i64))) (.tup (.v (.sl tyNode)) .unit))), (.tup (.own 206898 tyNode true) (.tup (.v .bool) .unit)), [], [(25, 10054)], [(0, ⟨[(3, (.sp tyProgram)), (6, (.box 206889 (.own 206890 tyNode true))), (7, (.box 206892 (.v .bool))), (8, (.box 206893 (.own 206894 tyNode true))), (30, (.clo 44 (.tup (.box 206875 (.v (.sl (.int .i64)))) .unit))), (31, (.v (.int .i64)))], [(.normal, [(2206889, (.box 206889 (.own 206890 tyNode true))), (2206892, (.box 206892 (.v .bool))), (2206893, (.box 206893 (.own 206896 tyNode true)))]), (.ret, [(2206889, (.box 206889 (.nl tyNode))), (2206892, (.box 206892 (.v .bool))), (2206893, (.box 206893 (.own 206897 tyNode true)))])], [6, 7, 8]⟩)], [], [], none⟩
noncomputable def h_laws_eqNode : FnH := ⟨31, Try.f31, (.tup (.v tyNode) (.tup (.v tyNode) .unit)), (.tup (.v .bool) .unit), [], [], [], [], [], none⟩
noncomputable def h_laws_eqNodeS : FnH := ⟨11, Try.f11, (.tup (.v (.sl tyNode)) (.tup (.v (.sl tyNode)) .unit)), (.tup (.v .bool) .unit), [], [], [(0, ⟨[(0, (.v (.sl tyNode))), (1, (.v (.sl tyNode))), (5, (.v (.int .i64)))], [(.ret, [(4, (.v .bool))]), (.exit 0, [])], []⟩)], [], [], none⟩
noncomputable def h_laws_eqChange : FnH := ⟨78, Try.f78, (.tup (.v tyChange) (.tup (.v tyChange) .unit)), (.tup (.v .bool) .unit), [], [], [], [], [], none⟩
noncomputable def h_laws_eqChangeS : FnH := ⟨65, Try.f65, (.tup (.v (.sl tyChange)) (.tup (.v (.sl tyChange)) .unit)), (.tup (.v .bool) .unit), [], [], [(0, ⟨[(0, (.v (.sl tyChange))), (1, (.v (.sl tyChange))), (5, (.v (.int .i64)))], [(.ret, [(4, (.v .bool))]), (.exit 0, [])], []⟩)], [], [], none⟩
noncomputable def h_laws_eqCommand : FnH := ⟨48, Try.f48, (.tup (.v tyCommand) (.tup (.v tyCommand) .unit)), (.tup (.v .bool) .unit), [], [], [], [], [], none⟩
noncomputable def h_laws_eqCommandS : FnH := ⟨32, Try.f32, (.tup (.v (.sl tyCommand)) (.tup (.v (.sl tyCommand)) .unit)), (.tup (.v .bool) .unit), [], [], [(0, ⟨[(0, (.v (.sl tyCommand))), (1, (.v (.sl tyCommand))), (5, (.v (.int .i64)))], [(.ret, [(4, (.v .bool))]), (.exit 0, [])], []⟩)], [], [], none⟩
noncomputable def h_laws_eqProgram : FnH := ⟨12, Try.f12, (.tup (.v tyProgram) (.tup (.v tyProgram) .unit)), (.tup (.v .bool) .unit), [], [], [], [], [], none⟩
noncomputable def h_laws_eqIntS : FnH := ⟨13, Try.f13, (.tup (.v (.sl (.int .i64))) (.tup (.v (.sl (.int .i64))) .unit)), (.tup (.v .bool) .unit), [], [], [(0, ⟨[(0, (.v (.sl (.int .i64)))), (1, (.v (.sl (.int .i64)))), (5, (.v (.int .i64)))], [(.ret, [(4, (.v .bool))]), (.exit 0, [])], []⟩)], [], [], none⟩
noncomputable def h_laws_markNodeS : FnH := ⟨16, Try.f16, (.tup (.own 206900 tyNode true) (.tup (.v (.int .i64)) .unit)), (.tup (.own 206900 tyNode true) (.tup (.v (.int .i64)) .unit)), [206900], [], [(0, ⟨[(0, (.own 206899 tyNode true)), (1, (.v (.int .i64))), (5, (.v (.int .i64)))], [(.exit 0, [(1206899, (.own 206899 tyNode true)), (1, (.v (.int .i64)))])], []⟩)], [], [], none⟩
noncomputable def h_laws_markChangeS : FnH := ⟨49, Try.f49, (.tup (.own 206905 tyChange true) (.tup (.v (.int .i64)) .unit)), (.tup (.own 206905 tyChange true) (.tup (.v (.int .i64)) .unit)), [206905], [], [(0, ⟨[(0, (.own 206904 tyChange true)), (1, (.v (.int .i64))), (5, (.v (.int .i64)))], [(.exit 0, [(1206904, (.own 206904 tyChange true)), (1, (.v (.int .i64)))])], []⟩)], [], [], none⟩
noncomputable def h_laws_markCommandS : FnH := ⟨33, Try.f33, (.tup (.own 206903 tyCommand true) (.tup (.v (.int .i64)) .unit)), (.tup (.own 206903 tyCommand true) (.tup (.v (.int .i64)) .unit)), [206903], [], [(0, ⟨[(0, (.own 206902 tyCommand true)), (1, (.v (.int .i64))), (5, (.v (.int .i64)))], [(.exit 0, [(1206902, (.own 206902 tyCommand true)), (1, (.v (.int .i64)))])], []⟩)], [], [], none⟩
noncomputable def h_laws_markProgram : FnH := ⟨14, Try.f14, (.tup (.pair (.v (.int .i64)) (.pair (.v (.int .i64)) (.pair (.own 206901 tyNode true) (.own 206906 tyCommand true)))) (.tup (.v (.int .i64)) .unit)), (.tup (.own 206901 tyNode true) (.tup (.own 206906 tyCommand true) (.tup (.v (.int .i64)) .unit))), [206901, 206906], [], [], [], [], none⟩
noncomputable def h_laws_markIntS : FnH := ⟨15, Try.f15, (.tup (.own 206908 (.int .i64) true) (.tup (.v (.int .i64)) .unit)), (.tup (.own 206908 (.int .i64) true) (.tup (.v (.int .i64)) .unit)), [206908], [], [(0, ⟨[(0, (.own 206907 (.int .i64) true)), (1, (.v (.int .i64))), (5, (.v (.int .i64)))], [(.exit 0, [(1206907, (.own 206907 (.int .i64) true)), (1, (.v (.int .i64)))])], []⟩)], [], [], none⟩
noncomputable def h_laws_heldNodeS : FnH := ⟨17, Try.f17, (.tup (.v (.sl tyNode)) (.tup (.v (.int .i64)) .unit)), (.tup (.v (.int .i64)) .unit), [], [], [(0, ⟨[(0, (.v (.sl tyNode))), (1, (.v (.int .i64))), (5, (.v (.int .i64)))], [(.ret, [(4, (.v (.int .i64)))]), (.exit 0, [(1, (.v (.int .i64)))])], []⟩)], [], [], none⟩
noncomputable def h_laws_FnExactAlongBefore : FnH := ⟨3, Try.f3, (.tup (.v tyProgram) (.tup (.v (.sl (.int .i64))) (.tup (.v (.sl tyNode)) .unit))), (.tup (.v .bool) .unit), [], [], [], [], [], none⟩
def extsL : List (Nat × ExtF) := [(29, .backward 44)]
def tysL : List (Nat × Ty) := [(3, (.int .i64)), (4, .bool), (22, (.sl tyNode)), (23, (.sl tyCommand)), (25, tyProgram), (26, (.sl (.int .i64))), (29, (.sl tyNode)), (32, (.sl tyCommand)), (34, tyProgram), (50, (.int .u64)), (52, tyNode), (54, tyNode), (66, (.sl tyChange)), (68, tyCommand), (72, (.sl tyChange)), (74, tyCommand), (86, (.sl (.sl tyNode))), (88, tyChange), (99, tyChange), (112, (.int .u64))]
def nfsL : List (Nat × Nat) := [(25, 4), (34, 4), (52, 2), (54, 2), (68, 2), (74, 2), (88, 2), (99, 2)]
def cellsL : List Nat := []
def mtysL : List (Nat × (Nat × Nat)) := []
noncomputable def keysL : List (Nat × FnH) := [(5, h_laws_szNodeS), (66, h_laws_szChange), (50, h_laws_szChangeS), (34, h_laws_szCommand), (18, h_laws_szCommandS), (4, h_laws_szProgram), (23, h_laws_toNode), (9, h_laws_toNodeS), (70, h_laws_toChange), (55, h_laws_toChangeS), (40, h_laws_toCommand), (22, h_laws_toCommandS), (7, h_laws_toProgram), (8, h_laws_toIntS), (36, h_spec_l1In), (67, h_spec_l1Wide), (68, h_spec_l2Need), (82, h_spec_l1Cut), (79, h_spec_GoodWord), (69, h_spec_l2N), (52, h_spec_l2Kind), (37, h_spec_l7Asks), (51, h_spec_l7Command), (35, h_spec_GoodProgram), (19, h_spec_l16Asked), (20, h_spec_l1All), (54, h_spec_GoodTerm), (39, h_spec_l2Made), (53, h_spec_PutAll), (38, h_spec_l16One), (21, h_spec_l16If), (6, h_spec_AlongBefore), (56, h_impl_isWide), (57, h_impl_isVars), (75, h_impl_operandsOf), (83, h_impl_mask), (81, h_impl_GoodWord), (76, h_impl_isLeafRight), (77, h_impl_GoodTerm_1), (43, h_slices_IndexFunc_int_by_GoodTerm_1), (25, h_slices_ContainsFunc_int_by_GoodTerm_1), (63, h_impl_GoodTerm), (72, h_impl_kindOf), (61, h_impl_isTermOf), (42, h_impl_Program_isCondition), (60, h_impl_Program_isCommand), (59, h_impl_GoodProgram_1), (71, h_slices_IndexFunc_Command_by_GoodProgram_1), (58, h_slices_ContainsFunc_Command_by_GoodProgram_1), (41, h_impl_GoodProgram), (27, h_impl_Program_isCommandNo), (24, h_impl_isBefore), (26, h_impl_AlongBefore_1), (10055, h_slices_IndexFunc_int_by_AlongBefore_1), (10054, h_slices_ContainsFunc_int_by_AlongBefore_1), (28, h_slices_Clone_Node), (74, h_impl_PutAll_1), (80, h_slices_IndexFunc_Node_by_PutAll_1), (73, h_slices_ContainsFunc_Node_by_PutAll_1), (46, h_impl_checkedTerm), (62, h_impl_PutAll), (45, h_impl_Program_beforeOne), (64, h_slices_Grow_Node), (47, h_slices_Concat_Node), (10067, h_impl_checkedTerm_2), (30, h_impl_Program_beforeIf), (10, h_impl_AlongBefore), (31, h_laws_eqNode), (11, h_laws_eqNodeS), (78, h_laws_eqChange), (65, h_laws_eqChangeS), (48, h_laws_eqCommand), (32, h_laws_eqCommandS), (12, h_laws_eqProgram), (13, h_laws_eqIntS), (16, h_laws_markNodeS), (49, h_laws_markChangeS), (33, h_laws_markCommandS), (14, h_laws_markProgram), (15, h_laws_markIntS), (17, h_laws_heldNodeS), (3, h_laws_FnExactAlongBefore)]
def itersL : List (Nat × Nat) := [(44, 3)]
noncomputable def H : Hints := { extF := fun f => lookupN extsL f, ty := fun T => lookupN tysL T, nf := fun T => match lookupN nfsL T with | some n => n | none => 0, cell := fun T => hasN cellsL T, key := fun k => lookupN keysL k, mty := fun T => lookupN mtysL T, iter := fun f => lookupN itersL f }
noncomputable def laws_szNodeS (a : Bool × List DNode) (left_ : Int) : Option Int := (inf H).call 5 (a, left_)
noncomputable def laws_szChange (a : DChange) (left_ : Int) : Option Int := (inf H).call 66 (a, left_)
noncomputable def laws_szChangeS (a : Bool × List DChange) (left_ : Int) : Option Int := (inf H).call 50 (a, left_)
theorem key_laws_szChangeS : H.key 50 = some h_laws_szChangeS := by kernel_rfl
noncomputable def laws_szChangeS_L0 (a : Bool × List DChange) (left_ : Int) (i : Int) : Option (Int ⊕ Int) := (inf H).loop 50 0 (loopCode Try.f50 0) (a, (left_, i))
noncomputable def laws_szCommand (a : DCommand) (left_ : Int) : Option Int := (inf H).call 34 (a, left_)
noncomputable def laws_szCommandS (a : Bool × List DCommand) (left_ : Int) : Option Int := (inf H).call 18 (a, left_)
theorem key_laws_szCommandS : H.key 18 = some h_laws_szCommandS := by kernel_rfl
noncomputable def laws_szCommandS_L0 (a : Bool × List DCommand) (left_ : Int) (i : Int) : Option (Int ⊕ Int) := (inf H).loop 18 0 (loopCode Try.f18 0) (a, (left_, i))
noncomputable def laws_szProgram (a : DProgram) (left_ : Int) : Option Int := (inf H).call 4 (a, left_)
noncomputable def laws_toNode (a : DNode) : Option DNode := (inf H).call 23 a
noncomputable def laws_toNodeS (a : Bool × List DNode) : Option (Bool × List DNode) := (inf H).call 9 a
theorem key_laws_toNodeS : H.key 9 = some h_laws_toNodeS := by kernel_rfl
noncomputable def laws_toNodeS_L0 (a : Bool × List DNode) (out : Bool × List DNode) (i : Int) : Option (Bool × List DNode) := (inf H).loop 9 0 (loopCode Try.f9 0) (a, (out, i))
noncomputable def laws_toChange (a : DChange) : Option DChange := (inf H).call 70 a
noncomputable def laws_toChangeS (a : Bool × List DChange) : Option (Bool × List DChange) := (inf H).call 55 a
theorem key_laws_toChangeS : H.key 55 = some h_laws_toChangeS := by kernel_rfl
noncomputable def laws_toChangeS_L0 (a : Bool × List DChange) (out : Bool × List DChange) (i : Int) : Option (Bool × List DChange) := (inf H).loop 55 0 (loopCode Try.f55 0) (a, (out, i))
noncomputable def laws_toCommand (a : DCommand) : Option DCommand := (inf H).call 40 a
noncomputable def laws_toCommandS (a : Bool × List DCommand) : Option (Bool × List DCommand) := (inf H).call 22 a
theorem key_laws_toCommandS : H.key 22 = some h_laws_toCommandS := by kernel_rfl
noncomputable def laws_toCommandS_L0 (a : Bool × List DCommand) (out : Bool × List DCommand) (i : Int) : Option (Bool × List DCommand) := (inf H).loop 22 0 (loopCode Try.f22 0) (a, (out, i))
noncomputable def laws_toProgram (a : DProgram) : Option DProgram := (inf H).call 7 a
noncomputable def laws_toIntS (a : Bool × List Int) : Option (Bool × List Int) := (inf H).call 8 a
theorem key_laws_toIntS : H.key 8 = some h_laws_toIntS := by kernel_rfl
noncomputable def laws_toIntS_L0 (a : Bool × List Int) (out : Bool × List Int) (i : Int) : Option (Bool × List Int) := (inf H).loop 8 0 (loopCode Try.f8 0) (a, (out, i))
noncomputable def spec_l1In (n : Int) (lo : Int) (hi : Int) : Option Bool := (inf H).call 36 (n, (lo, hi))
noncomputable def spec_l1Wide (wide : Int) : Option Bool := (inf H).call 67 wide
noncomputable def spec_l2Need (op : Int) : Option (Int × Int × Int) := (inf H).call 68 op
noncomputable def spec_l1Cut (wide : Int) (a : Int) : Option Int := (inf H).call 82 (wide, a)
theorem key_spec_l1Cut : H.key 82 = some h_spec_l1Cut := by kernel_rfl
noncomputable def spec_l1Cut_L0 (wide : Int) (a : Int) (out : Int) (k_ : Int) : Option Int := (inf H).loop 82 0 (loopCode Try.f82 0) (wide, (a, (out, k_)))
noncomputable def spec_GoodWord (wide : Int) (a : Int) : Option Bool := (inf H).call 79 (wide, a)
noncomputable def spec_l2N (wide : Int) (vars : Int) (n : DNode) : Option Bool := (inf H).call 69 (wide, (vars, n))
noncomputable def spec_l2Kind (wide : Int) (vars : Int) (t : Bool × List DNode) : Option Int := (inf H).call 52 (wide, (vars, t))
theorem key_spec_l2Kind : H.key 52 = some h_spec_l2Kind := by kernel_rfl
noncomputable def spec_l2Kind_L0 (wide : Int) (vars : Int) (pile : Bool × List Int) (t27 : Bool × List DNode) (t28 : Int) (t29 : Int) : Option (Int ⊕ (Bool × List Int)) := (inf H).loop 52 0 (loopCode Try.f52 0) (wide, (vars, (pile, (t27, (t28, t29)))))
noncomputable def spec_l2Kind_L2 (wide : Int) (vars : Int) (pile : Bool × List Int) (many : Int) (part : Int) (own : Int) (t27 : Bool × List DNode) (t28 : Int) (t29 : Int) : Option (Int ⊕ (Bool × List Int)) := (inf H).loop 52 2 (loopCode Try.f52 2) (wide, (vars, (pile, (many, (part, (own, (t27, (t28, t29))))))))
noncomputable def spec_l7Asks (p : DProgram) (t : Bool × List DNode) : Option Bool := (inf H).call 37 (p, t)
noncomputable def spec_l7Command (p : DProgram) (c : DCommand) : Option Bool := (inf H).call 51 (p, c)
theorem key_spec_l7Command : H.key 51 = some h_spec_l7Command := by kernel_rfl
noncomputable def spec_l7Command_L0 (p : DProgram) (c : DCommand) (t21 : Bool × List DChange) (t22 : Int) (t23 : Int) : Option (Bool ⊕ Unit) := (inf H).loop 51 0 (loopCode Try.f51 0) (p, (c, (t21, (t22, t23))))
noncomputable def spec_GoodProgram (p : DProgram) : Option Bool := (inf H).call 35 p
theorem key_spec_GoodProgram : H.key 35 = some h_spec_GoodProgram := by kernel_rfl
noncomputable def spec_GoodProgram_L0 (p : DProgram) (t18 : Bool × List DCommand) (t19 : Int) (t20 : Int) : Option (Bool ⊕ Unit) := (inf H).loop 35 0 (loopCode Try.f35 0) (p, (t18, (t19, t20)))
noncomputable def spec_l16Asked (p : DProgram) (k_ : Int) (t : Bool × List DNode) : Option Bool := (inf H).call 19 (p, (k_, t))
noncomputable def spec_l1All (l : Bool × List Int) (lo : Int) (hi : Int) : Option Bool := (inf H).call 20 (l, (lo, hi))
theorem key_spec_l1All : H.key 20 = some h_spec_l1All := by kernel_rfl
noncomputable def spec_l1All_L0 (lo : Int) (hi : Int) (t9 : Bool × List Int) (t10 : Int) (t11 : Int) : Option (Bool ⊕ Unit) := (inf H).loop 20 0 (loopCode Try.f20 0) (lo, (hi, (t9, (t10, t11))))
noncomputable def spec_GoodTerm (wide : Int) (vars : Int) (t : Bool × List DNode) : Option Bool := (inf H).call 54 (wide, (vars, t))
noncomputable def spec_l2Made (wide : Int) (vars : Int) (t : Bool × List DNode) : Option ((Bool × List DNode) × Bool) := (inf H).call 39 (wide, (vars, t))
noncomputable def spec_PutAll (wide : Int) (vars : Int) (t : Bool × List DNode) (by_ : Bool × List (Bool × List DNode)) : Option ((Bool × List DNode) × Bool) := (inf H).call 53 (wide, (vars, (t, by_)))
theorem key_spec_PutAll : H.key 53 = some h_spec_PutAll := by kernel_rfl
noncomputable def spec_PutAll_L0 (wide : Int) (vars : Int) (t : Bool × List DNode) (by_ : Bool × List (Bool × List DNode)) (t26 : Bool × List (Bool × List DNode)) (t27 : Int) (t28 : Int) : Option (Bool ⊕ Unit) := (inf H).loop 53 0 (loopCode Try.f53 0) (wide, (vars, (t, (by_, (t26, (t27, t28))))))
noncomputable def spec_PutAll_L2 (wide : Int) (vars : Int) (by_ : Bool × List (Bool × List DNode)) (out : Bool × List DNode) (t38 : Bool × List DNode) (t39 : Int) (t40 : Int) : Option (Bool × List DNode) := (inf H).loop 53 2 (loopCode Try.f53 2) (wide, (vars, (by_, (out, (t38, (t39, t40))))))
noncomputable def spec_l16One (p : DProgram) (k_ : Int) (t : Bool × List DNode) : Option ((Bool × List DNode) × Bool) := (inf H).call 38 (p, (k_, t))
theorem key_spec_l16One : H.key 38 = some h_spec_l16One := by kernel_rfl
noncomputable def spec_l16One_L0 (k_ : Int) (t : Bool × List DNode) (p : DProgram) (by_ : Bool × List (Bool × List DNode)) (v : Int) : Option (Bool × List (Bool × List DNode)) := (inf H).loop 38 0 (loopCode Try.f38 0) (k_, (t, (p, (by_, v))))
noncomputable def spec_l16One_L2 (t : Bool × List DNode) (p : DProgram) (by_ : Bool × List (Bool × List DNode)) (t30 : Bool × List DChange) (t31 : Int) (t32 : Int) : Option (Bool × List (Bool × List DNode)) := (inf H).loop 38 2 (loopCode Try.f38 2) (t, (p, (by_, (t30, (t31, t32)))))
noncomputable def spec_l16If (p : DProgram) (k_ : Int) (t : Bool × List DNode) : Option ((Bool × List DNode) × Bool) := (inf H).call 21 (p, (k_, t))
noncomputable def spec_AlongBefore (p : DProgram) (ks : Bool × List Int) (t : Bool × List DNode) : Option ((Bool × List DNode) × Bool) := (inf H).call 6 (p, (ks, t))
theorem key_spec_AlongBefore : H.key 6 = some h_spec_AlongBefore := by kernel_rfl
noncomputable def spec_AlongBefore_L0 (ks : Bool × List Int) (p : DProgram) (out : Bool × List DNode) (i : Int) : Option (Bool ⊕ (Bool × List DNode)) := (inf H).loop 6 0 (loopCode Try.f6 0) (ks, (p, (out, i)))
noncomputable def impl_isWide (n : Int) : Option Bool := (inf H).call 56 n
noncomputable def impl_isVars (n : Int) : Option Bool := (inf H).call 57 n
noncomputable def impl_operandsOf (op : Int) : Option (Int × Int × Int) := (inf H).call 75 op
noncomputable def impl_mask (wide : Int) : Option Int := (inf H).call 83 wide
noncomputable def impl_GoodWord (wide : Int) (a : Int) : Option Bool := (inf H).call 81 (wide, a)
noncomputable def impl_isLeafRight (wide : Int) (vars : Int) (x : DNode) : Option Bool := (inf H).call 76 (wide, (vars, x))
noncomputable def impl_GoodTerm_1 (own : Int) (a1 : Int) : Option Bool := (inf H).call 77 (own, a1)
noncomputable def slices_IndexFunc_int_by_GoodTerm_1 (s : Bool × List Int) (f : Int × Unit) : Option Int := (inf H).call 43 (s, f)
theorem key_slices_IndexFunc_int_by_GoodTerm_1 : H.key 43 = some h_slices_IndexFunc_int_by_GoodTerm_1 := by kernel_rfl
noncomputable def slices_IndexFunc_int_by_GoodTerm_1_L0 (s : Bool × List Int) (f : Int × Unit) (t7 : Int) (t8 : Int) : Option (Int ⊕ Unit) := (inf H).loop 43 0 (loopCode Try.f43 0) (s, (f, (t7, t8)))
noncomputable def slices_ContainsFunc_int_by_GoodTerm_1 (s : Bool × List Int) (f : Int × Unit) : Option Bool := (inf H).call 25 (s, f)
noncomputable def impl_GoodTerm (wide : Int) (vars : Int) (t : Bool × List DNode) : Option Bool := (inf H).call 63 (wide, (vars, t))
theorem key_impl_GoodTerm : H.key 63 = some h_impl_GoodTerm := by kernel_rfl
noncomputable def impl_GoodTerm_L0 (wide : Int) (vars : Int) (stack : Bool × List Int) (t33 : Bool × List DNode) (t34 : Int) (t35 : Int) : Option (Bool ⊕ (Bool × List Int)) := (inf H).loop 63 0 (loopCode Try.f63 0) (wide, (vars, (stack, (t33, (t34, t35)))))
noncomputable def impl_kindOf (t : Bool × List DNode) : Option Int := (inf H).call 72 t
noncomputable def impl_isTermOf (wide : Int) (vars : Int) (t : Bool × List DNode) (kind : Int) : Option Bool := (inf H).call 61 (wide, (vars, (t, kind)))
noncomputable def impl_Program_isCondition (p : DProgram) (t : Bool × List DNode) : Option Bool := (inf H).call 42 (p, t)
noncomputable def impl_Program_isCommand (p : DProgram) (c : DCommand) : Option Bool := (inf H).call 60 (p, c)
theorem key_impl_Program_isCommand : H.key 60 = some h_impl_Program_isCommand := by kernel_rfl
noncomputable def impl_Program_isCommand_L0 (p : DProgram) (c : DCommand) (t13 : Bool × List DChange) (t14 : Int) (t15 : Int) : Option (Bool ⊕ Unit) := (inf H).loop 60 0 (loopCode Try.f60 0) (p, (c, (t13, (t14, t15))))
noncomputable def impl_GoodProgram_1 (c : DCommand) (a1 : DProgram) : Option Bool := (inf H).call 59 (c, a1)
noncomputable def slices_IndexFunc_Command_by_GoodProgram_1 (s : Bool × List DCommand) (f : DProgram × Unit) : Option Int := (inf H).call 71 (s, f)
theorem key_slices_IndexFunc_Command_by_GoodProgram_1 : H.key 71 = some h_slices_IndexFunc_Command_by_GoodProgram_1 := by kernel_rfl
noncomputable def slices_IndexFunc_Command_by_GoodProgram_1_L0 (s : Bool × List DCommand) (f : DProgram × Unit) (t7 : Int) (t8 : Int) : Option (Int ⊕ Unit) := (inf H).loop 71 0 (loopCode Try.f71 0) (s, (f, (t7, t8)))
noncomputable def slices_ContainsFunc_Command_by_GoodProgram_1 (s : Bool × List DCommand) (f : DProgram × Unit) : Option Bool := (inf H).call 58 (s, f)
noncomputable def impl_GoodProgram (p : DProgram) : Option Bool := (inf H).call 41 p
noncomputable def impl_Program_isCommandNo (p : DProgram) (k_ : Int) : Option Bool := (inf H).call 27 (p, k_)
noncomputable def impl_isBefore (p : DProgram) (k_ : Int) (t : Bool × List DNode) : Option Bool := (inf H).call 24 (p, (k_, t))
noncomputable def impl_AlongBefore_1 (k_ : Int) (a1 : DProgram) : Option Bool := (inf H).call 26 (k_, a1)
noncomputable def slices_IndexFunc_int_by_AlongBefore_1 (s : Bool × List Int) (f : DProgram × Unit) : Option Int := (inf H).call 10055 (s, f)
theorem key_slices_IndexFunc_int_by_AlongBefore_1 : H.key 10055 = some h_slices_IndexFunc_int_by_AlongBefore_1 := by kernel_rfl
noncomputable def slices_IndexFunc_int_by_AlongBefore_1_L0 (s : Bool × List Int) (f : DProgram × Unit) (t7 : Int) (t8 : Int) : Option (Int ⊕ Unit) := (inf H).loop 10055 0 (loopCode Try.f43 0) (s, (f, (t7, t8)))
noncomputable def slices_ContainsFunc_int_by_AlongBefore_1 (s : Bool × List Int) (f : DProgram × Unit) : Option Bool := (inf H).call 10054 (s, f)
noncomputable def slices_Clone_Node (s : Bool × List DNode) : Option (Bool × List DNode) := (inf H).call 28 s
noncomputable def impl_PutAll_1 (own : Bool × List DNode) (a1 : Int) (a2 : Int) : Option Bool := (inf H).call 74 (own, (a1, a2))
noncomputable def slices_IndexFunc_Node_by_PutAll_1 (s : Bool × List (Bool × List DNode)) (f : Int × Int × Unit) : Option Int := (inf H).call 80 (s, f)
theorem key_slices_IndexFunc_Node_by_PutAll_1 : H.key 80 = some h_slices_IndexFunc_Node_by_PutAll_1 := by kernel_rfl
noncomputable def slices_IndexFunc_Node_by_PutAll_1_L0 (s : Bool × List (Bool × List DNode)) (f : Int × Int × Unit) (t7 : Int) (t8 : Int) : Option (Int ⊕ Unit) := (inf H).loop 80 0 (loopCode Try.f80 0) (s, (f, (t7, t8)))
noncomputable def slices_ContainsFunc_Node_by_PutAll_1 (s : Bool × List (Bool × List DNode)) (f : Int × Int × Unit) : Option Bool := (inf H).call 73 (s, f)
noncomputable def impl_checkedTerm (wide : Int) (vars : Int) (t : Bool × List DNode) : Option ((Bool × List DNode) × Bool) := (inf H).call 46 (wide, (vars, t))
noncomputable def impl_PutAll (wide : Int) (vars : Int) (t : Bool × List DNode) (by_ : Bool × List (Bool × List DNode)) : Option ((Bool × List DNode) × Bool) := (inf H).call 62 (wide, (vars, (t, by_)))
theorem key_impl_PutAll : H.key 62 = some h_impl_PutAll := by kernel_rfl
noncomputable def impl_PutAll_L0 (by_ : Bool × List (Bool × List DNode)) (wide : Int) (vars : Int) (out : Bool × List DNode) (t30 : Bool × List DNode) (t31 : Int) (t32 : Int) : Option (Bool × List DNode) := (inf H).loop 62 0 (loopCode Try.f62 0) (by_, (wide, (vars, (out, (t30, (t31, t32))))))
noncomputable def impl_Program_beforeOne (p : DProgram) (k_ : Int) (t : Bool × List DNode) : Option ((Bool × List DNode) × Bool) := (inf H).call 45 (p, (k_, t))
theorem key_impl_Program_beforeOne : H.key 45 = some h_impl_Program_beforeOne := by kernel_rfl
noncomputable def impl_Program_beforeOne_L0 (k_ : Int) (t : Bool × List DNode) (p : DProgram) (by_ : Bool × List (Bool × List DNode)) (t14 : Int) (t15 : Int) : Option (Bool × List (Bool × List DNode)) := (inf H).loop 45 0 (loopCode Try.f45 0) (k_, (t, (p, (by_, (t14, t15)))))
noncomputable def impl_Program_beforeOne_L2 (t : Bool × List DNode) (p : DProgram) (by_ : Bool × List (Bool × List DNode)) (t31 : Bool × List DChange) (t32 : Int) (t33 : Int) : Option (Bool × List (Bool × List DNode)) := (inf H).loop 45 2 (loopCode Try.f45 2) (t, (p, (by_, (t31, (t32, t33)))))
noncomputable def slices_Grow_Node (n : Int) : Option (Bool × List DNode) := (inf H).call 64 n
noncomputable def slices_Concat_Node (slices : Bool × List (Bool × List DNode)) : Option (Bool × List DNode) := (inf H).call 47 slices
theorem key_slices_Concat_Node : H.key 47 = some h_slices_Concat_Node := by kernel_rfl
noncomputable def slices_Concat_Node_L0 (slices : Bool × List (Bool × List DNode)) (size_ : Int) (t9 : Bool × List (Bool × List DNode)) (t10 : Int) (t11 : Int) : Option Int := (inf H).loop 47 0 (loopCode Try.f47 0) (slices, (size_, (t9, (t10, t11))))
noncomputable def slices_Concat_Node_L2 (newslice : Bool × List DNode) (t25 : Bool × List (Bool × List DNode)) (t26 : Int) (t27 : Int) : Option (Bool × List DNode) := (inf H).loop 47 2 (loopCode Try.f47 2) (newslice, (t25, (t26, t27)))
noncomputable def impl_checkedTerm_2 (wide : Int) (vars : Int) (t : Bool × List DNode) : Option ((Bool × List DNode) × Bool) := (inf H).call 10067 (wide, (vars, t))
noncomputable def impl_Program_beforeIf (p : DProgram) (k_ : Int) (t : Bool × List DNode) : Option ((Bool × List DNode) × Bool) := (inf H).call 30 (p, (k_, t))
noncomputable def impl_AlongBefore (p : DProgram) (ks : Bool × List Int) (t : Bool × List DNode) : Option ((Bool × List DNode) × Bool) := (inf H).call 10 (p, (ks, t))
theorem key_impl_AlongBefore : H.key 10 = some h_impl_AlongBefore := by kernel_rfl
noncomputable def impl_AlongBefore_L0 (p : DProgram) (t6 : Bool × List DNode) (t7 : Bool) (out : Bool × List DNode) (t30 : Bool × List Int) (t31 : Int) : Option (((Bool × List DNode) × Bool × Bool × List DNode) ⊕ (Bool × Bool × List DNode)) := (inf H).loop 10 0 (loopCode Try.f10 0) (p, (t6, (t7, (out, (t30, t31)))))
noncomputable def laws_eqNode (a : DNode) (b : DNode) : Option Bool := (inf H).call 31 (a, b)
noncomputable def laws_eqNodeS (a : Bool × List DNode) (b : Bool × List DNode) : Option Bool := (inf H).call 11 (a, b)
theorem key_laws_eqNodeS : H.key 11 = some h_laws_eqNodeS := by kernel_rfl
noncomputable def laws_eqNodeS_L0 (a : Bool × List DNode) (b : Bool × List DNode) (i : Int) : Option (Bool ⊕ Unit) := (inf H).loop 11 0 (loopCode Try.f11 0) (a, (b, i))
noncomputable def laws_eqChange (a : DChange) (b : DChange) : Option Bool := (inf H).call 78 (a, b)
noncomputable def laws_eqChangeS (a : Bool × List DChange) (b : Bool × List DChange) : Option Bool := (inf H).call 65 (a, b)
theorem key_laws_eqChangeS : H.key 65 = some h_laws_eqChangeS := by kernel_rfl
noncomputable def laws_eqChangeS_L0 (a : Bool × List DChange) (b : Bool × List DChange) (i : Int) : Option (Bool ⊕ Unit) := (inf H).loop 65 0 (loopCode Try.f65 0) (a, (b, i))
noncomputable def laws_eqCommand (a : DCommand) (b : DCommand) : Option Bool := (inf H).call 48 (a, b)
noncomputable def laws_eqCommandS (a : Bool × List DCommand) (b : Bool × List DCommand) : Option Bool := (inf H).call 32 (a, b)
theorem key_laws_eqCommandS : H.key 32 = some h_laws_eqCommandS := by kernel_rfl
noncomputable def laws_eqCommandS_L0 (a : Bool × List DCommand) (b : Bool × List DCommand) (i : Int) : Option (Bool ⊕ Unit) := (inf H).loop 32 0 (loopCode Try.f32 0) (a, (b, i))
noncomputable def laws_eqProgram (a : DProgram) (b : DProgram) : Option Bool := (inf H).call 12 (a, b)
noncomputable def laws_eqIntS (a : Bool × List Int) (b : Bool × List Int) : Option Bool := (inf H).call 13 (a, b)
theorem key_laws_eqIntS : H.key 13 = some h_laws_eqIntS := by kernel_rfl
noncomputable def laws_eqIntS_L0 (a : Bool × List Int) (b : Bool × List Int) (i : Int) : Option (Bool ⊕ Unit) := (inf H).loop 13 0 (loopCode Try.f13 0) (a, (b, i))
noncomputable def laws_markNodeS (a : Bool × List DNode) (k_ : Int) : Option ((Bool × List DNode) × Int) := (inf H).call 16 (a, k_)
theorem key_laws_markNodeS : H.key 16 = some h_laws_markNodeS := by kernel_rfl
noncomputable def laws_markNodeS_L0 (a : Bool × List DNode) (k_ : Int) (i : Int) : Option ((Bool × List DNode) × Int) := (inf H).loop 16 0 (loopCode Try.f16 0) (a, (k_, i))
noncomputable def laws_markChangeS (a : Bool × List DChange) (k_ : Int) : Option ((Bool × List DChange) × Int) := (inf H).call 49 (a, k_)
theorem key_laws_markChangeS : H.key 49 = some h_laws_markChangeS := by kernel_rfl
noncomputable def laws_markChangeS_L0 (a : Bool × List DChange) (k_ : Int) (i : Int) : Option ((Bool × List DChange) × Int) := (inf H).loop 49 0 (loopCode Try.f49 0) (a, (k_, i))
noncomputable def laws_markCommandS (a : Bool × List DCommand) (k_ : Int) : Option ((Bool × List DCommand) × Int) := (inf H).call 33 (a, k_)
theorem key_laws_markCommandS : H.key 33 = some h_laws_markCommandS := by kernel_rfl
noncomputable def laws_markCommandS_L0 (a : Bool × List DCommand) (k_ : Int) (i : Int) : Option ((Bool × List DCommand) × Int) := (inf H).loop 33 0 (loopCode Try.f33 0) (a, (k_, i))
noncomputable def laws_markProgram (a0_0 : Int) (a0_1 : Int) (a0_2 : Bool × List DNode) (a0_3 : Bool × List DCommand) (k_ : Int) : Option ((Bool × List DNode) × (Bool × List DCommand) × Int) := (inf H).call 14 (a0_0, (a0_1, (a0_2, (a0_3, k_))))
noncomputable def laws_markIntS (a : Bool × List Int) (k_ : Int) : Option ((Bool × List Int) × Int) := (inf H).call 15 (a, k_)
theorem key_laws_markIntS : H.key 15 = some h_laws_markIntS := by kernel_rfl
noncomputable def laws_markIntS_L0 (a : Bool × List Int) (k_ : Int) (i : Int) : Option ((Bool × List Int) × Int) := (inf H).loop 15 0 (loopCode Try.f15 0) (a, (k_, i))
noncomputable def laws_heldNodeS (a : Bool × List DNode) (k_ : Int) : Option Int := (inf H).call 17 (a, k_)
theorem key_laws_heldNodeS : H.key 17 = some h_laws_heldNodeS := by kernel_rfl
noncomputable def laws_heldNodeS_L0 (a : Bool × List DNode) (k_ : Int) (i : Int) : Option (Int ⊕ Int) := (inf H).loop 17 0 (loopCode Try.f17 0) (a, (k_, i))
noncomputable def laws_FnExactAlongBefore (aP : DProgram) (aKs : Bool × List Int) (aT : Bool × List DNode) : Option Bool := (inf H).call 3 (aP, (aKs, aT))
theorem laws_szNodeS_eq (a : Bool × List DNode) (left_ : Int) : laws_szNodeS a left_ =
 bif decide ((IntKind.i64.wrap (left_ - (a.2.length : Int))) < 0) then
 some (-1)
else 
 some (IntKind.i64.wrap (left_ - (a.2.length : Int))) := Eq.trans (inf_call_eq (H := H) 5 (a, left_)) (by kernel_rfl)
theorem laws_szChange_eq (a : DChange) (left_ : Int) : laws_szChange a left_ =
(laws_szNodeS a.2 left_).bind fun r =>
 bif decide (r < 0) then
 some (-1)
else 
 some r := Eq.trans (inf_call_eq (H := H) 66 (a, left_)) (by kernel_rfl)
theorem laws_szChangeS_L0_eq (a : Bool × List DChange) (left_ : Int) (i : Int) : laws_szChangeS_L0 a left_ i =
 bif decide (i < (a.2.length : Int)) then
 bif decide (0 ≤ i) then
 bif decide (i < (a.2.length : Int)) then
(laws_szChange (a.2.getD (Int.toNat i) (0, (true, []))) left_).bind fun r =>
 bif decide (r < 0) then
 some (.inl (-1))
else 
(laws_szChangeS_L0 a r (IntKind.i64.wrap (i + 1))).bind fun r => some r
else none
else none
else 
 some (.inr left_) := Eq.trans (inf_loop_eq (H := H) 50 0 (loopCode Try.f50 0) (a, (left_, i)) key_laws_szChangeS) (by kernel_rfl)
theorem laws_szChangeS_eq (a : Bool × List DChange) (left_ : Int) : laws_szChangeS a left_ =
 bif decide ((IntKind.i64.wrap (left_ - (a.2.length : Int))) < 0) then
 some (-1)
else 
(laws_szChangeS_L0 a (IntKind.i64.wrap (left_ - (a.2.length : Int))) 0).bind fun r =>
 match r with
| .inl y =>
 some y
| .inr z =>
 some z := Eq.trans (inf_call_eq (H := H) 50 (a, left_)) (by kernel_rfl)
theorem laws_szCommand_eq (a : DCommand) (left_ : Int) : laws_szCommand a left_ =
(laws_szNodeS a.1 left_).bind fun r =>
 bif decide (r < 0) then
 some (-1)
else 
(laws_szChangeS a.2 r).bind fun r1 =>
 bif decide (r1 < 0) then
 some (-1)
else 
 some r1 := Eq.trans (inf_call_eq (H := H) 34 (a, left_)) (by kernel_rfl)
theorem laws_szCommandS_L0_eq (a : Bool × List DCommand) (left_ : Int) (i : Int) : laws_szCommandS_L0 a left_ i =
 bif decide (i < (a.2.length : Int)) then
 bif decide (0 ≤ i) then
 bif decide (i < (a.2.length : Int)) then
(laws_szCommand (a.2.getD (Int.toNat i) ((true, []), (true, []))) left_).bind fun r =>
 bif decide (r < 0) then
 some (.inl (-1))
else 
(laws_szCommandS_L0 a r (IntKind.i64.wrap (i + 1))).bind fun r => some r
else none
else none
else 
 some (.inr left_) := Eq.trans (inf_loop_eq (H := H) 18 0 (loopCode Try.f18 0) (a, (left_, i)) key_laws_szCommandS) (by kernel_rfl)
theorem laws_szCommandS_eq (a : Bool × List DCommand) (left_ : Int) : laws_szCommandS a left_ =
 bif decide ((IntKind.i64.wrap (left_ - (a.2.length : Int))) < 0) then
 some (-1)
else 
(laws_szCommandS_L0 a (IntKind.i64.wrap (left_ - (a.2.length : Int))) 0).bind fun r =>
 match r with
| .inl y =>
 some y
| .inr z =>
 some z := Eq.trans (inf_call_eq (H := H) 18 (a, left_)) (by kernel_rfl)
theorem laws_szProgram_eq (a : DProgram) (left_ : Int) : laws_szProgram a left_ =
(laws_szNodeS a.2.2.1 left_).bind fun r =>
 bif decide (r < 0) then
 some (-1)
else 
(laws_szCommandS a.2.2.2 r).bind fun r1 =>
 bif decide (r1 < 0) then
 some (-1)
else 
 some r1 := Eq.trans (inf_call_eq (H := H) 4 (a, left_)) (by kernel_rfl)
theorem laws_toNode_eq (a : DNode) : laws_toNode a =
 some (a.1, a.2) := Eq.trans (inf_call_eq (H := H) 23 a) (by kernel_rfl)
theorem laws_toNodeS_L0_eq (a : Bool × List DNode) (out : Bool × List DNode) (i : Int) : laws_toNodeS_L0 a out i =
 bif decide (i < (a.2.length : Int)) then
 bif decide (0 ≤ i) then
 bif decide (i < (a.2.length : Int)) then
(laws_toNode (a.2.getD (Int.toNat i) (0, 0))).bind fun r =>
 bif decide (0 ≤ i) then
 bif decide (i < (out.2.length : Int)) then
(laws_toNodeS_L0 a (out.1, (out.2.set (Int.toNat i) r)) (IntKind.i64.wrap (i + 1))).bind fun r => some r
else none
else none
else none
else none
else 
 some (out.1, out.2) := Eq.trans (inf_loop_eq (H := H) 9 0 (loopCode Try.f9 0) (a, (out, i)) key_laws_toNodeS) (by kernel_rfl)
theorem laws_toNodeS_eq (a : Bool × List DNode) : laws_toNodeS a =
 bif decide (0 ≤ (a.2.length : Int)) then
 bif decide ((a.2.length : Int) ≤ lim) then
 bif decide ((a.2.length : Int) ≤ (a.2.length : Int)) then
 bif decide ((a.2.length : Int) ≤ lim) then
(laws_toNodeS_L0 a (false, (List.replicate (Int.toNat (a.2.length : Int)) ((0, 0) : DNode))) 0).bind fun r =>
 some (r.1, r.2)
else none
else none
else none
else none := Eq.trans (inf_call_eq (H := H) 9 a) (by kernel_rfl)
theorem laws_toChange_eq (a : DChange) : laws_toChange a =
(laws_toNodeS a.2).bind fun r =>
 some (a.1, (r.1, r.2)) := Eq.trans (inf_call_eq (H := H) 70 a) (by kernel_rfl)
theorem laws_toChangeS_L0_eq (a : Bool × List DChange) (out : Bool × List DChange) (i : Int) : laws_toChangeS_L0 a out i =
 bif decide (i < (a.2.length : Int)) then
 bif decide (0 ≤ i) then
 bif decide (i < (a.2.length : Int)) then
(laws_toChange (a.2.getD (Int.toNat i) (0, (true, [])))).bind fun r =>
 bif decide (0 ≤ i) then
 bif decide (i < (out.2.length : Int)) then
(laws_toChangeS_L0 a (out.1, (out.2.set (Int.toNat i) (r.1, (r.2.1, r.2.2)))) (IntKind.i64.wrap (i + 1))).bind fun r => some r
else none
else none
else none
else none
else 
 some (out.1, out.2) := Eq.trans (inf_loop_eq (H := H) 55 0 (loopCode Try.f55 0) (a, (out, i)) key_laws_toChangeS) (by kernel_rfl)
theorem laws_toChangeS_eq (a : Bool × List DChange) : laws_toChangeS a =
 bif decide (0 ≤ (a.2.length : Int)) then
 bif decide ((a.2.length : Int) ≤ lim) then
 bif decide ((a.2.length : Int) ≤ (a.2.length : Int)) then
 bif decide ((a.2.length : Int) ≤ lim) then
(laws_toChangeS_L0 a (false, (List.replicate (Int.toNat (a.2.length : Int)) ((0, (true, [])) : DChange))) 0).bind fun r =>
 some (r.1, r.2)
else none
else none
else none
else none := Eq.trans (inf_call_eq (H := H) 55 a) (by kernel_rfl)
theorem laws_toCommand_eq (a : DCommand) : laws_toCommand a =
(laws_toNodeS a.1).bind fun r =>
(laws_toChangeS a.2).bind fun r1 =>
 some ((r.1, r.2), (r1.1, r1.2)) := Eq.trans (inf_call_eq (H := H) 40 a) (by kernel_rfl)
theorem laws_toCommandS_L0_eq (a : Bool × List DCommand) (out : Bool × List DCommand) (i : Int) : laws_toCommandS_L0 a out i =
 bif decide (i < (a.2.length : Int)) then
 bif decide (0 ≤ i) then
 bif decide (i < (a.2.length : Int)) then
(laws_toCommand (a.2.getD (Int.toNat i) ((true, []), (true, [])))).bind fun r =>
 bif decide (0 ≤ i) then
 bif decide (i < (out.2.length : Int)) then
(laws_toCommandS_L0 a (out.1, (out.2.set (Int.toNat i) ((r.1.1, r.1.2), (r.2.1, r.2.2)))) (IntKind.i64.wrap (i + 1))).bind fun r => some r
else none
else none
else none
else none
else 
 some (out.1, out.2) := Eq.trans (inf_loop_eq (H := H) 22 0 (loopCode Try.f22 0) (a, (out, i)) key_laws_toCommandS) (by kernel_rfl)
theorem laws_toCommandS_eq (a : Bool × List DCommand) : laws_toCommandS a =
 bif decide (0 ≤ (a.2.length : Int)) then
 bif decide ((a.2.length : Int) ≤ lim) then
 bif decide ((a.2.length : Int) ≤ (a.2.length : Int)) then
 bif decide ((a.2.length : Int) ≤ lim) then
(laws_toCommandS_L0 a (false, (List.replicate (Int.toNat (a.2.length : Int)) (((true, []), (true, [])) : DCommand))) 0).bind fun r =>
 some (r.1, r.2)
else none
else none
else none
else none := Eq.trans (inf_call_eq (H := H) 22 a) (by kernel_rfl)
theorem laws_toProgram_eq (a : DProgram) : laws_toProgram a =
(laws_toNodeS a.2.2.1).bind fun r =>
(laws_toCommandS a.2.2.2).bind fun r1 =>
 some (a.1, (a.2.1, ((r.1, r.2), (r1.1, r1.2)))) := Eq.trans (inf_call_eq (H := H) 7 a) (by kernel_rfl)
theorem laws_toIntS_L0_eq (a : Bool × List Int) (out : Bool × List Int) (i : Int) : laws_toIntS_L0 a out i =
 bif decide (i < (a.2.length : Int)) then
 bif decide (0 ≤ i) then
 bif decide (i < (a.2.length : Int)) then
 bif decide (0 ≤ i) then
 bif decide (i < (out.2.length : Int)) then
(laws_toIntS_L0 a (out.1, (out.2.set (Int.toNat i) (a.2.getD (Int.toNat i) 0))) (IntKind.i64.wrap (i + 1))).bind fun r => some r
else none
else none
else none
else none
else 
 some (out.1, out.2) := Eq.trans (inf_loop_eq (H := H) 8 0 (loopCode Try.f8 0) (a, (out, i)) key_laws_toIntS) (by kernel_rfl)
theorem laws_toIntS_eq (a : Bool × List Int) : laws_toIntS a =
 bif decide (0 ≤ (a.2.length : Int)) then
 bif decide ((a.2.length : Int) ≤ lim) then
 bif decide ((a.2.length : Int) ≤ (a.2.length : Int)) then
 bif decide ((a.2.length : Int) ≤ lim) then
(laws_toIntS_L0 a (false, (List.replicate (Int.toNat (a.2.length : Int)) (0 : Int))) 0).bind fun r =>
 some (r.1, r.2)
else none
else none
else none
else none := Eq.trans (inf_call_eq (H := H) 8 a) (by kernel_rfl)
theorem spec_l1In_eq (n : Int) (lo : Int) (hi : Int) : spec_l1In n lo hi =
 bif decide (n ≥ lo) then
 some (decide (n ≤ hi))
else 
 some false := Eq.trans (inf_call_eq (H := H) 36 (n, (lo, hi))) (by kernel_rfl)
theorem spec_l1Wide_eq (wide : Int) : spec_l1Wide wide =
(spec_l1In wide 1 64).bind fun r =>
 some r := Eq.trans (inf_call_eq (H := H) 67 wide) (by kernel_rfl)
theorem spec_l2Need_eq (op : Int) : spec_l2Need op =
 bif (op == 1) then
 some (0, (1, 1))
else 
 bif (op == 2) then
 some (0, (1, 1))
else 
 bif (op == 20) then
 some (0, (2, 2))
else 
 bif (op == 13) then
 some (1, (1, 1))
else 
 bif (op == 19) then
 some (1, (2, 2))
else 
(spec_l1In op 3 12).bind fun r =>
 bif r then
 some (2, (1, 1))
else 
(spec_l1In op 14 16).bind fun r1 =>
 bif r1 then
 some (2, (1, 2))
else 
 bif (op == 17) then
 some (2, (2, 2))
else 
 bif (op == 18) then
 some (2, (2, 2))
else 
 some (0, (0, 0)) := Eq.trans (inf_call_eq (H := H) 68 op) (by kernel_rfl)
theorem spec_l1Cut_L0_eq (wide : Int) (a : Int) (out : Int) (k_ : Int) : spec_l1Cut_L0 wide a out k_ =
 bif decide (k_ < wide) then
 bif decide ((IntKind.u64.wrap k_) < 0) then
 none
else 
(spec_l1Cut_L0 wide a (bOr .u64 out (bAnd .u64 a (bShl .u64 1 (IntKind.u64.wrap k_)))) (IntKind.i64.wrap (k_ + 1))).bind fun r => some r
else 
 some out := Eq.trans (inf_loop_eq (H := H) 82 0 (loopCode Try.f82 0) (wide, (a, (out, k_))) key_spec_l1Cut) (by kernel_rfl)
theorem spec_l1Cut_eq (wide : Int) (a : Int) : spec_l1Cut wide a =
(spec_l1Cut_L0 wide a 0 0).bind fun r =>
 some r := Eq.trans (inf_call_eq (H := H) 82 (wide, a)) (by kernel_rfl)
theorem spec_GoodWord_eq (wide : Int) (a : Int) : spec_GoodWord wide a =
(spec_l1Wide wide).bind fun r =>
 bif r then
(spec_l1Cut wide a).bind fun r1 =>
 some (r1 == a)
else 
 some false := Eq.trans (inf_call_eq (H := H) 79 (wide, a)) (by kernel_rfl)
theorem spec_l2N_eq (wide : Int) (vars : Int) (n : DNode) : spec_l2N wide vars n =
 bif (n.1 == 1) then
(spec_GoodWord wide n.2).bind fun r =>
 some r
else 
 bif (n.1 == 2) then
 some (decide (n.2 < (IntKind.u64.wrap vars)))
else 
 bif (n.1 == 20) then
 some (decide (n.2 < 2))
else 
 some (n.2 == 0) := Eq.trans (inf_call_eq (H := H) 69 (wide, (vars, n))) (by kernel_rfl)
theorem spec_l2Kind_L0_eq (wide : Int) (vars : Int) (pile : Bool × List Int) (t27 : Bool × List DNode) (t28 : Int) (t29 : Int) : spec_l2Kind_L0 wide vars pile t27 t28 t29 =
 bif decide (t29 < t28) then
 bif decide (0 ≤ t29) then
 bif decide (t29 < (t27.2.length : Int)) then
(spec_l2Need ((t27.2.getD (Int.toNat t29) (0, 0)).1)).bind fun r =>
 bif (r.2.2 == 0) then
 some (.inl 0)
else 
(spec_l2N wide vars (t27.2.getD (Int.toNat t29) (0, 0))).bind fun r1 =>
 bif !r1 then
 some (.inl 0)
else 
 bif decide ((pile.2.length : Int) < r.1) then
 some (.inl 0)
else 
(spec_l2Kind_L2 wide vars (pile.1, pile.2) r.1 r.2.1 r.2.2 t27 t28 t29).bind fun r2 =>
 match r2 with
| .inl y =>
 some (.inl y)
| .inr z =>
 bif decide (z.2.length + [r.2.2].length ≤ lim) then
(spec_l2Kind_L0 wide vars ((z.1 && false), (z.2 ++ [r.2.2])) t27 t28 (IntKind.i64.wrap (t29 + 1))).bind fun r => some r
else none
else none
else none
else 
 some (.inr (pile.1, pile.2)) := Eq.trans (inf_loop_eq (H := H) 52 0 (loopCode Try.f52 0) (wide, (vars, (pile, (t27, (t28, t29))))) key_spec_l2Kind) (by kernel_rfl)
theorem spec_l2Kind_L2_eq (wide : Int) (vars : Int) (pile : Bool × List Int) (many : Int) (part : Int) (own : Int) (t27 : Bool × List DNode) (t28 : Int) (t29 : Int) : spec_l2Kind_L2 wide vars pile many part own t27 t28 t29 =
 bif decide (many > 0) then
 bif decide (0 ≤ (IntKind.i64.wrap ((pile.2.length : Int) - 1))) then
 bif decide ((IntKind.i64.wrap ((pile.2.length : Int) - 1)) < (pile.2.length : Int)) then
 bif ((pile.2.getD (Int.toNat (IntKind.i64.wrap ((pile.2.length : Int) - 1))) 0) != part) then
 some (.inl 0)
else 
 bif decide (0 ≤ (IntKind.i64.wrap ((pile.2.length : Int) - 1))) then
 bif decide ((IntKind.i64.wrap ((pile.2.length : Int) - 1)) ≤ (pile.2.length : Int)) then
(spec_l2Kind_L2 wide vars (pile.1, ((pile.2.take (Int.toNat (IntKind.i64.wrap ((pile.2.length : Int) - 1)))).drop 0)) (IntKind.i64.wrap (many - 1)) part own t27 t28 t29).bind fun r => some r
else none
else none
else none
else none
else 
 some (.inr (pile.1, pile.2)) := Eq.trans (inf_loop_eq (H := H) 52 2 (loopCode Try.f52 2) (wide, (vars, (pile, (many, (part, (own, (t27, (t28, t29)))))))) key_spec_l2Kind) (by kernel_rfl)
theorem spec_l2Kind_eq (wide : Int) (vars : Int) (t : Bool × List DNode) : spec_l2Kind wide vars t =
(spec_l1Wide wide).bind fun r =>
 bif !r then
 some 0
else 
(spec_l1In vars 1 4).bind fun r1 =>
 bif !r1 then
 some 0
else 
(spec_l1In (t.2.length : Int) 1 48).bind fun r2 =>
 bif !r2 then
 some 0
else 
(spec_l2Kind_L0 wide vars (true, []) t (t.2.length : Int) 0).bind fun r3 =>
 match r3 with
| .inl y =>
 some y
| .inr z =>
 bif ((z.2.length : Int) != 1) then
 some 0
else 
 bif decide (0 < (z.2.length : Int)) then
 some (z.2.getD 0 0)
else none := Eq.trans (inf_call_eq (H := H) 52 (wide, (vars, t))) (by kernel_rfl)
theorem spec_l7Asks_eq (p : DProgram) (t : Bool × List DNode) : spec_l7Asks p t =
(spec_l2Kind p.1 p.2.1 t).bind fun r =>
 some (r == 2) := Eq.trans (inf_call_eq (H := H) 37 (p, t)) (by kernel_rfl)
theorem spec_l7Command_L0_eq (p : DProgram) (c : DCommand) (t21 : Bool × List DChange) (t22 : Int) (t23 : Int) : spec_l7Command_L0 p c t21 t22 t23 =
 bif decide (t23 < t22) then
 bif decide (0 ≤ t23) then
 bif decide (t23 < (t21.2.length : Int)) then
(spec_l1In ((t21.2.getD (Int.toNat t23) (0, (true, []))).1) 0 (IntKind.i64.wrap (p.2.1 - 1))).bind fun r =>
 bif !r then
 some (.inl false)
else 
 bif decide (t23 > 0) then
 bif decide (0 ≤ (IntKind.i64.wrap (t23 - 1))) then
 bif decide ((IntKind.i64.wrap (t23 - 1)) < (c.2.2.length : Int)) then
 bif decide (((c.2.2.getD (Int.toNat (IntKind.i64.wrap (t23 - 1))) (0, (true, []))).1) ≥ ((t21.2.getD (Int.toNat t23) (0, (true, []))).1)) then
 some (.inl false)
else 
(spec_l2Kind p.1 p.2.1 ((t21.2.getD (Int.toNat t23) (0, (true, []))).2)).bind fun r1 =>
 bif (r1 != 1) then
 some (.inl false)
else 
(spec_l7Command_L0 p c t21 t22 (IntKind.i64.wrap (t23 + 1))).bind fun r => some r
else none
else none
else 
(spec_l2Kind p.1 p.2.1 ((t21.2.getD (Int.toNat t23) (0, (true, []))).2)).bind fun r2 =>
 bif (r2 != 1) then
 some (.inl false)
else 
(spec_l7Command_L0 p c t21 t22 (IntKind.i64.wrap (t23 + 1))).bind fun r => some r
else none
else none
else 
 some (.inr ()) := Eq.trans (inf_loop_eq (H := H) 51 0 (loopCode Try.f51 0) (p, (c, (t21, (t22, t23)))) key_spec_l7Command) (by kernel_rfl)
theorem spec_l7Command_eq (p : DProgram) (c : DCommand) : spec_l7Command p c =
(spec_l7Asks p c.1).bind fun r =>
 bif !r then
 some false
else 
 bif decide ((c.2.2.length : Int) > p.2.1) then
 some false
else 
(spec_l7Command_L0 p c c.2 (c.2.2.length : Int) 0).bind fun r1 =>
 match r1 with
| .inl y =>
 some y
| .inr z =>
 some true := Eq.trans (inf_call_eq (H := H) 51 (p, c)) (by kernel_rfl)
theorem spec_GoodProgram_L0_eq (p : DProgram) (t18 : Bool × List DCommand) (t19 : Int) (t20 : Int) : spec_GoodProgram_L0 p t18 t19 t20 =
 bif decide (t20 < t19) then
 bif decide (0 ≤ t20) then
 bif decide (t20 < (t18.2.length : Int)) then
(spec_l7Command p (t18.2.getD (Int.toNat t20) ((true, []), (true, [])))).bind fun r =>
 bif !r then
 some (.inl false)
else 
(spec_GoodProgram_L0 p t18 t19 (IntKind.i64.wrap (t20 + 1))).bind fun r => some r
else none
else none
else 
 some (.inr ()) := Eq.trans (inf_loop_eq (H := H) 35 0 (loopCode Try.f35 0) (p, (t18, (t19, t20))) key_spec_GoodProgram) (by kernel_rfl)
theorem spec_GoodProgram_eq (p : DProgram) : spec_GoodProgram p =
(spec_l7Asks p p.2.2.1).bind fun r =>
 bif !r then
 some false
else 
(spec_l1In (p.2.2.2.2.length : Int) 1 6).bind fun r1 =>
 bif !r1 then
 some false
else 
(spec_GoodProgram_L0 p p.2.2.2 (p.2.2.2.2.length : Int) 0).bind fun r2 =>
 match r2 with
| .inl y =>
 some y
| .inr z =>
 some true := Eq.trans (inf_call_eq (H := H) 35 p) (by kernel_rfl)
theorem spec_l16Asked_eq (p : DProgram) (k_ : Int) (t : Bool × List DNode) : spec_l16Asked p k_ t =
(spec_GoodProgram p).bind fun r =>
 bif r then
(spec_l1In k_ 0 (IntKind.i64.wrap ((p.2.2.2.2.length : Int) - 1))).bind fun r1 =>
 bif r1 then
(spec_l7Asks p t).bind fun r2 =>
 some r2
else 
 some false
else 
 some false := Eq.trans (inf_call_eq (H := H) 19 (p, (k_, t))) (by kernel_rfl)
theorem spec_l1All_L0_eq (lo : Int) (hi : Int) (t9 : Bool × List Int) (t10 : Int) (t11 : Int) : spec_l1All_L0 lo hi t9 t10 t11 =
 bif decide (t11 < t10) then
 bif decide (0 ≤ t11) then
 bif decide (t11 < (t9.2.length : Int)) then
(spec_l1In (t9.2.getD (Int.toNat t11) 0) lo hi).bind fun r =>
 bif !r then
 some (.inl false)
else 
(spec_l1All_L0 lo hi t9 t10 (IntKind.i64.wrap (t11 + 1))).bind fun r => some r
else none
else none
else 
 some (.inr ()) := Eq.trans (inf_loop_eq (H := H) 20 0 (loopCode Try.f20 0) (lo, (hi, (t9, (t10, t11)))) key_spec_l1All) (by kernel_rfl)
theorem spec_l1All_eq (l : Bool × List Int) (lo : Int) (hi : Int) : spec_l1All l lo hi =
(spec_l1All_L0 lo hi l (l.2.length : Int) 0).bind fun r =>
 match r with
| .inl y =>
 some y
| .inr z =>
 some true := Eq.trans (inf_call_eq (H := H) 20 (l, (lo, hi))) (by kernel_rfl)
theorem spec_GoodTerm_eq (wide : Int) (vars : Int) (t : Bool × List DNode) : spec_GoodTerm wide vars t =
(spec_l2Kind wide vars t).bind fun r =>
 some (decide (r > 0)) := Eq.trans (inf_call_eq (H := H) 54 (wide, (vars, t))) (by kernel_rfl)
theorem spec_l2Made_eq (wide : Int) (vars : Int) (t : Bool × List DNode) : spec_l2Made wide vars t =
(spec_GoodTerm wide vars t).bind fun r =>
 bif !r then
 some ((true, []), false)
else 
 some (t, true) := Eq.trans (inf_call_eq (H := H) 39 (wide, (vars, t))) (by kernel_rfl)
theorem spec_PutAll_L0_eq (wide : Int) (vars : Int) (t : Bool × List DNode) (by_ : Bool × List (Bool × List DNode)) (t26 : Bool × List (Bool × List DNode)) (t27 : Int) (t28 : Int) : spec_PutAll_L0 wide vars t by_ t26 t27 t28 =
 bif decide (t28 < t27) then
 bif decide (0 ≤ t28) then
 bif decide (t28 < (t26.2.length : Int)) then
(spec_l2Kind wide vars (t26.2.getD (Int.toNat t28) (true, []))).bind fun r =>
 bif (r != 1) then
 some (.inl false)
else 
(spec_PutAll_L0 wide vars t by_ t26 t27 (IntKind.i64.wrap (t28 + 1))).bind fun r => some r
else none
else none
else 
 some (.inr ()) := Eq.trans (inf_loop_eq (H := H) 53 0 (loopCode Try.f53 0) (wide, (vars, (t, (by_, (t26, (t27, t28)))))) key_spec_PutAll) (by kernel_rfl)
theorem spec_PutAll_L2_eq (wide : Int) (vars : Int) (by_ : Bool × List (Bool × List DNode)) (out : Bool × List DNode) (t38 : Bool × List DNode) (t39 : Int) (t40 : Int) : spec_PutAll_L2 wide vars by_ out t38 t39 t40 =
 bif decide (t40 < t39) then
 bif decide (0 ≤ t40) then
 bif decide (t40 < (t38.2.length : Int)) then
 bif (((t38.2.getD (Int.toNat t40) (0, 0)).1) == 2) then
 bif decide (0 ≤ ((t38.2.getD (Int.toNat t40) (0, 0)).2)) then
 bif decide (((t38.2.getD (Int.toNat t40) (0, 0)).2) < (by_.2.length : Int)) then
 bif decide (out.2.length + ((by_.2.getD (Int.toNat ((t38.2.getD (Int.toNat t40) (0, 0)).2)) (true, [])).2 : List DNode).length ≤ lim) then
(spec_PutAll_L2 wide vars by_ ((out.1 && ((by_.2.getD (Int.toNat ((t38.2.getD (Int.toNat t40) (0, 0)).2)) (true, [])).2).isEmpty), (out.2 ++ ((by_.2.getD (Int.toNat ((t38.2.getD (Int.toNat t40) (0, 0)).2)) (true, [])).2))) t38 t39 (IntKind.i64.wrap (t40 + 1))).bind fun r => some r
else none
else none
else none
else 
 bif decide (out.2.length + [(t38.2.getD (Int.toNat t40) (0, 0))].length ≤ lim) then
(spec_PutAll_L2 wide vars by_ ((out.1 && false), (out.2 ++ [(t38.2.getD (Int.toNat t40) (0, 0))])) t38 t39 (IntKind.i64.wrap (t40 + 1))).bind fun r => some r
else none
else none
else none
else 
 some (out.1, out.2) := Eq.trans (inf_loop_eq (H := H) 53 2 (loopCode Try.f53 2) (wide, (vars, (by_, (out, (t38, (t39, t40)))))) key_spec_PutAll) (by kernel_rfl)
theorem spec_PutAll_eq (wide : Int) (vars : Int) (t : Bool × List DNode) (by_ : Bool × List (Bool × List DNode)) : spec_PutAll wide vars t by_ =
(spec_GoodTerm wide vars t).bind fun r =>
 bif !r then
 some ((true, []), false)
else 
 bif ((by_.2.length : Int) != vars) then
 some ((true, []), false)
else 
(spec_PutAll_L0 wide vars t by_ by_ (by_.2.length : Int) 0).bind fun r1 =>
 match r1 with
| .inl y =>
 some ((true, []), y)
| .inr z =>
(spec_PutAll_L2 wide vars by_ (true, []) t (t.2.length : Int) 0).bind fun r2 =>
(spec_l2Made wide vars (r2.1, r2.2)).bind fun r3 =>
 some (r3.1, r3.2) := Eq.trans (inf_call_eq (H := H) 53 (wide, (vars, (t, by_)))) (by kernel_rfl)
theorem spec_l16One_L0_eq (k_ : Int) (t : Bool × List DNode) (p : DProgram) (by_ : Bool × List (Bool × List DNode)) (v : Int) : spec_l16One_L0 k_ t p by_ v =
 bif decide (v < p.2.1) then
 bif decide (by_.2.length + [(false, [(2, IntKind.u64.wrap v)])].length ≤ lim) then
(spec_l16One_L0 k_ t p ((by_.1 && false), (by_.2 ++ [(false, [(2, IntKind.u64.wrap v)])])) (IntKind.i64.wrap (v + 1))).bind fun r => some r
else none
else 
 some (by_.1, by_.2) := Eq.trans (inf_loop_eq (H := H) 38 0 (loopCode Try.f38 0) (k_, (t, (p, (by_, v)))) key_spec_l16One) (by kernel_rfl)
theorem spec_l16One_L2_eq (t : Bool × List DNode) (p : DProgram) (by_ : Bool × List (Bool × List DNode)) (t30 : Bool × List DChange) (t31 : Int) (t32 : Int) : spec_l16One_L2 t p by_ t30 t31 t32 =
 bif decide (t32 < t31) then
 bif decide (0 ≤ t32) then
 bif decide (t32 < (t30.2.length : Int)) then
 bif decide (0 ≤ ((t30.2.getD (Int.toNat t32) (0, (true, []))).1)) then
 bif decide (((t30.2.getD (Int.toNat t32) (0, (true, []))).1) < (by_.2.length : Int)) then
(spec_l16One_L2 t p (by_.1, (by_.2.set (Int.toNat ((t30.2.getD (Int.toNat t32) (0, (true, []))).1)) ((t30.2.getD (Int.toNat t32) (0, (true, []))).2))) t30 t31 (IntKind.i64.wrap (t32 + 1))).bind fun r => some r
else none
else none
else none
else none
else 
 some (by_.1, by_.2) := Eq.trans (inf_loop_eq (H := H) 38 2 (loopCode Try.f38 2) (t, (p, (by_, (t30, (t31, t32))))) key_spec_l16One) (by kernel_rfl)
theorem spec_l16One_eq (p : DProgram) (k_ : Int) (t : Bool × List DNode) : spec_l16One p k_ t =
(spec_l16One_L0 k_ t p (true, []) 0).bind fun r =>
 bif decide (0 ≤ k_) then
 bif decide (k_ < (p.2.2.2.2.length : Int)) then
(spec_l16One_L2 t p (r.1, r.2) ((p.2.2.2.2.getD (Int.toNat k_) ((true, []), (true, []))).2) ((((p.2.2.2.2.getD (Int.toNat k_) ((true, []), (true, []))).2).2).length : Int) 0).bind fun r1 =>
(spec_PutAll p.1 p.2.1 t (r1.1, r1.2)).bind fun r2 =>
 some (r2.1, r2.2)
else none
else none := Eq.trans (inf_call_eq (H := H) 38 (p, (k_, t))) (by kernel_rfl)
theorem spec_l16If_eq (p : DProgram) (k_ : Int) (t : Bool × List DNode) : spec_l16If p k_ t =
(spec_l16One p k_ t).bind fun r =>
 bif !r.2 then
 some ((true, []), false)
else 
 bif decide (0 ≤ k_) then
 bif decide (k_ < (p.2.2.2.2.length : Int)) then
 bif decide (([] : List DNode).length + (((p.2.2.2.2.getD (Int.toNat k_) ((true, []), (true, []))).1).2 : List DNode).length ≤ lim) then
 bif decide (([] ++ (((p.2.2.2.2.getD (Int.toNat k_) ((true, []), (true, []))).1).2)).length + [(19, 0)].length ≤ lim) then
 bif decide ((([] ++ (((p.2.2.2.2.getD (Int.toNat k_) ((true, []), (true, []))).1).2)) ++ [(19, 0)]).length + r.1.2.length ≤ lim) then
 bif decide (((([] ++ (((p.2.2.2.2.getD (Int.toNat k_) ((true, []), (true, []))).1).2)) ++ [(19, 0)]) ++ r.1.2).length + [(18, 0)].length ≤ lim) then
(spec_l2Made p.1 p.2.1 (false, (((([] ++ (((p.2.2.2.2.getD (Int.toNat k_) ((true, []), (true, []))).1).2)) ++ [(19, 0)]) ++ r.1.2) ++ [(18, 0)]))).bind fun r1 =>
 some (r1.1, r1.2)
else none
else none
else none
else none
else none
else none := Eq.trans (inf_call_eq (H := H) 21 (p, (k_, t))) (by kernel_rfl)
theorem spec_AlongBefore_L0_eq (ks : Bool × List Int) (p : DProgram) (out : Bool × List DNode) (i : Int) : spec_AlongBefore_L0 ks p out i =
 bif decide (i ≥ 0) then
 bif decide (0 ≤ i) then
 bif decide (i < (ks.2.length : Int)) then
(spec_l16If p (ks.2.getD (Int.toNat i) 0) out).bind fun r =>
 bif !r.2 then
 some (.inl false)
else 
(spec_AlongBefore_L0 ks p r.1 (IntKind.i64.wrap (i - 1))).bind fun r => some r
else none
else none
else 
 some (.inr out) := Eq.trans (inf_loop_eq (H := H) 6 0 (loopCode Try.f6 0) (ks, (p, (out, i))) key_spec_AlongBefore) (by kernel_rfl)
theorem spec_AlongBefore_eq (p : DProgram) (ks : Bool × List Int) (t : Bool × List DNode) : spec_AlongBefore p ks t =
(spec_l16Asked p 0 t).bind fun r =>
 bif !r then
 some ((true, []), false)
else 
 bif decide ((ks.2.length : Int) > 10) then
 some ((true, []), false)
else 
(spec_l1All ks 0 (IntKind.i64.wrap ((p.2.2.2.2.length : Int) - 1))).bind fun r1 =>
 bif !r1 then
 some ((true, []), false)
else 
 bif decide (([] : List DNode).length + t.2.length ≤ lim) then
(spec_AlongBefore_L0 ks p (false, ([] ++ t.2)) (IntKind.i64.wrap ((ks.2.length : Int) - 1))).bind fun r2 =>
 match r2 with
| .inl y =>
 some ((true, []), y)
| .inr z =>
 some (z, true)
else none := Eq.trans (inf_call_eq (H := H) 6 (p, (ks, t))) (by kernel_rfl)
theorem impl_isWide_eq (n : Int) : impl_isWide n =
 bif decide (n ≥ 1) then
 some (decide (n ≤ 64))
else 
 some false := Eq.trans (inf_call_eq (H := H) 56 n) (by kernel_rfl)
theorem impl_isVars_eq (n : Int) : impl_isVars n =
 bif decide (n ≥ 1) then
 some (decide (n ≤ 4))
else 
 some false := Eq.trans (inf_call_eq (H := H) 57 n) (by kernel_rfl)
theorem impl_operandsOf_eq (op : Int) : impl_operandsOf op =
 bif (op == 1) then
 some (0, (0, 1))
else 
 bif (op == 2) then
 some (0, (0, 1))
else 
 bif (op == 20) then
 some (0, (0, 2))
else 
 bif (op == 13) then
 some (1, (1, 1))
else 
 bif (op == 19) then
 some (1, (2, 2))
else 
 bif decide (op ≥ 3) then
 bif decide (op ≤ 12) then
 some (2, (1, 1))
else 
 bif decide (op ≥ 14) then
 bif decide (op ≤ 16) then
 some (2, (1, 2))
else 
 bif (op == 17) then
 some (2, (2, 2))
else 
 bif (op == 18) then
 some (2, (2, 2))
else 
 some (0, (0, 0))
else 
 bif (op == 17) then
 some (2, (2, 2))
else 
 bif (op == 18) then
 some (2, (2, 2))
else 
 some (0, (0, 0))
else 
 bif decide (op ≥ 14) then
 bif decide (op ≤ 16) then
 some (2, (1, 2))
else 
 bif (op == 17) then
 some (2, (2, 2))
else 
 bif (op == 18) then
 some (2, (2, 2))
else 
 some (0, (0, 0))
else 
 bif (op == 17) then
 some (2, (2, 2))
else 
 bif (op == 18) then
 some (2, (2, 2))
else 
 some (0, (0, 0)) := Eq.trans (inf_call_eq (H := H) 75 op) (by kernel_rfl)
theorem impl_mask_eq (wide : Int) : impl_mask wide =
 bif decide ((IntKind.i64.wrap (64 - wide)) < 0) then
 none
else 
 some (bShr .u64 18446744073709551615 (IntKind.i64.wrap (64 - wide))) := Eq.trans (inf_call_eq (H := H) 83 wide) (by kernel_rfl)
theorem impl_GoodWord_eq (wide : Int) (a : Int) : impl_GoodWord wide a =
(impl_isWide wide).bind fun r =>
 bif r then
(impl_mask wide).bind fun r1 =>
 some (decide (a ≤ r1))
else 
 some false := Eq.trans (inf_call_eq (H := H) 81 (wide, a)) (by kernel_rfl)
theorem impl_isLeafRight_eq (wide : Int) (vars : Int) (x : DNode) : impl_isLeafRight wide vars x =
 bif (x.1 == 1) then
(impl_GoodWord wide x.2).bind fun r =>
 some r
else 
 bif (x.1 == 2) then
 some (decide (x.2 < (IntKind.u64.wrap vars)))
else 
 bif (x.1 == 20) then
 some (decide (x.2 ≤ 1))
else 
 some (x.2 == 0) := Eq.trans (inf_call_eq (H := H) 76 (wide, (vars, x))) (by kernel_rfl)
theorem impl_GoodTerm_1_eq (own : Int) (a1 : Int) : impl_GoodTerm_1 own a1 =
 some (own != a1) := Eq.trans (inf_call_eq (H := H) 77 (own, a1)) (by kernel_rfl)
theorem slices_IndexFunc_int_by_GoodTerm_1_L0_eq (s : Bool × List Int) (f : Int × Unit) (t7 : Int) (t8 : Int) : slices_IndexFunc_int_by_GoodTerm_1_L0 s f t7 t8 =
 bif decide (t8 < t7) then
 bif decide (0 ≤ t8) then
 bif decide (t8 < (s.2.length : Int)) then
(impl_GoodTerm_1 (s.2.getD (Int.toNat t8) 0) f.1).bind fun r =>
 bif r then
 some (.inl t8)
else 
(slices_IndexFunc_int_by_GoodTerm_1_L0 s f t7 (IntKind.i64.wrap (t8 + 1))).bind fun r => some r
else none
else none
else 
 some (.inr ()) := Eq.trans (inf_loop_eq (H := H) 43 0 (loopCode Try.f43 0) (s, (f, (t7, t8))) key_slices_IndexFunc_int_by_GoodTerm_1) (by kernel_rfl)
theorem slices_IndexFunc_int_by_GoodTerm_1_eq (s : Bool × List Int) (f : Int × Unit) : slices_IndexFunc_int_by_GoodTerm_1 s f =
(slices_IndexFunc_int_by_GoodTerm_1_L0 s f (s.2.length : Int) 0).bind fun r =>
 match r with
| .inl y =>
 some y
| .inr z =>
 some (-1) := Eq.trans (inf_call_eq (H := H) 43 (s, f)) (by kernel_rfl)
theorem slices_ContainsFunc_int_by_GoodTerm_1_eq (s : Bool × List Int) (f : Int × Unit) : slices_ContainsFunc_int_by_GoodTerm_1 s f =
(slices_IndexFunc_int_by_GoodTerm_1 s f).bind fun r =>
 some (decide (r ≥ 0)) := Eq.trans (inf_call_eq (H := H) 25 (s, f)) (by kernel_rfl)
theorem impl_GoodTerm_L0_eq (wide : Int) (vars : Int) (stack : Bool × List Int) (t33 : Bool × List DNode) (t34 : Int) (t35 : Int) : impl_GoodTerm_L0 wide vars stack t33 t34 t35 =
 bif decide (t35 < t34) then
 bif decide (0 ≤ t35) then
 bif decide (t35 < (t33.2.length : Int)) then
(impl_operandsOf ((t33.2.getD (Int.toNat t35) (0, 0)).1)).bind fun r =>
 bif (r.2.2 == 0) then
 some (.inl false)
else 
(impl_isLeafRight wide vars (t33.2.getD (Int.toNat t35) (0, 0))).bind fun r1 =>
 bif !r1 then
 some (.inl false)
else 
 bif decide ((IntKind.i64.wrap ((stack.2.length : Int) - r.1)) < 0) then
 some (.inl false)
else 
 bif decide (0 ≤ (IntKind.i64.wrap ((stack.2.length : Int) - r.1))) then
 bif decide ((IntKind.i64.wrap ((stack.2.length : Int) - r.1)) ≤ (stack.2.length : Int)) then
(slices_ContainsFunc_int_by_GoodTerm_1 (stack.1, ((stack.2.take stack.2.length).drop (Int.toNat (IntKind.i64.wrap ((stack.2.length : Int) - r.1))))) (r.2.1, ())).bind fun r2 =>
 bif r2 then
 some (.inl false)
else 
 bif decide (0 ≤ (IntKind.i64.wrap ((stack.2.length : Int) - r.1))) then
 bif decide ((IntKind.i64.wrap ((stack.2.length : Int) - r.1)) ≤ (stack.2.length : Int)) then
 bif decide (((stack.2.take (Int.toNat (IntKind.i64.wrap ((stack.2.length : Int) - r.1)))).drop 0).length + [r.2.2].length ≤ lim) then
(impl_GoodTerm_L0 wide vars ((stack.1 && false), (((stack.2.take (Int.toNat (IntKind.i64.wrap ((stack.2.length : Int) - r.1)))).drop 0) ++ [r.2.2])) t33 t34 (IntKind.i64.wrap (t35 + 1))).bind fun r => some r
else none
else none
else none
else none
else none
else none
else none
else 
 some (.inr (stack.1, stack.2)) := Eq.trans (inf_loop_eq (H := H) 63 0 (loopCode Try.f63 0) (wide, (vars, (stack, (t33, (t34, t35))))) key_impl_GoodTerm) (by kernel_rfl)
theorem impl_GoodTerm_eq (wide : Int) (vars : Int) (t : Bool × List DNode) : impl_GoodTerm wide vars t =
(impl_isWide wide).bind fun r =>
 bif !r then
 some false
else 
(impl_isVars vars).bind fun r1 =>
 bif !r1 then
 some false
else 
 bif decide ((t.2.length : Int) < 1) then
 some false
else 
 bif decide ((t.2.length : Int) > 48) then
 some false
else 
(impl_GoodTerm_L0 wide vars (false, []) t (t.2.length : Int) 0).bind fun r2 =>
 match r2 with
| .inl y =>
 some y
| .inr z =>
 some ((z.2.length : Int) == 1) := Eq.trans (inf_call_eq (H := H) 63 (wide, (vars, t))) (by kernel_rfl)
theorem impl_kindOf_eq (t : Bool × List DNode) : impl_kindOf t =
 bif decide (0 ≤ (IntKind.i64.wrap ((t.2.length : Int) - 1))) then
 bif decide ((IntKind.i64.wrap ((t.2.length : Int) - 1)) < (t.2.length : Int)) then
(impl_operandsOf ((t.2.getD (Int.toNat (IntKind.i64.wrap ((t.2.length : Int) - 1))) (0, 0)).1)).bind fun r =>
 some r.2.2
else none
else none := Eq.trans (inf_call_eq (H := H) 72 t) (by kernel_rfl)
theorem impl_isTermOf_eq (wide : Int) (vars : Int) (t : Bool × List DNode) (kind : Int) : impl_isTermOf wide vars t kind =
(impl_GoodTerm wide vars t).bind fun r =>
 bif r then
(impl_kindOf t).bind fun r1 =>
 some (r1 == kind)
else 
 some false := Eq.trans (inf_call_eq (H := H) 61 (wide, (vars, (t, kind)))) (by kernel_rfl)
theorem impl_Program_isCondition_eq (p : DProgram) (t : Bool × List DNode) : impl_Program_isCondition p t =
(impl_isTermOf p.1 p.2.1 t 2).bind fun r =>
 some r := Eq.trans (inf_call_eq (H := H) 42 (p, t)) (by kernel_rfl)
theorem impl_Program_isCommand_L0_eq (p : DProgram) (c : DCommand) (t13 : Bool × List DChange) (t14 : Int) (t15 : Int) : impl_Program_isCommand_L0 p c t13 t14 t15 =
 bif decide (t15 < t14) then
 bif decide (0 ≤ t15) then
 bif decide (t15 < (t13.2.length : Int)) then
 bif decide (((t13.2.getD (Int.toNat t15) (0, (true, []))).1) < 0) then
 some (.inl false)
else 
 bif decide (((t13.2.getD (Int.toNat t15) (0, (true, []))).1) ≥ p.2.1) then
 some (.inl false)
else 
 bif decide (t15 > 0) then
 bif decide (0 ≤ (IntKind.i64.wrap (t15 - 1))) then
 bif decide ((IntKind.i64.wrap (t15 - 1)) < (c.2.2.length : Int)) then
 bif decide (((c.2.2.getD (Int.toNat (IntKind.i64.wrap (t15 - 1))) (0, (true, []))).1) ≥ ((t13.2.getD (Int.toNat t15) (0, (true, []))).1)) then
 some (.inl false)
else 
(impl_isTermOf p.1 p.2.1 ((t13.2.getD (Int.toNat t15) (0, (true, []))).2) 1).bind fun r =>
 bif !r then
 some (.inl false)
else 
(impl_Program_isCommand_L0 p c t13 t14 (IntKind.i64.wrap (t15 + 1))).bind fun r => some r
else none
else none
else 
(impl_isTermOf p.1 p.2.1 ((t13.2.getD (Int.toNat t15) (0, (true, []))).2) 1).bind fun r1 =>
 bif !r1 then
 some (.inl false)
else 
(impl_Program_isCommand_L0 p c t13 t14 (IntKind.i64.wrap (t15 + 1))).bind fun r => some r
else none
else none
else 
 some (.inr ()) := Eq.trans (inf_loop_eq (H := H) 60 0 (loopCode Try.f60 0) (p, (c, (t13, (t14, t15)))) key_impl_Program_isCommand) (by kernel_rfl)
theorem impl_Program_isCommand_eq (p : DProgram) (c : DCommand) : impl_Program_isCommand p c =
(impl_Program_isCondition p c.1).bind fun r =>
 bif !r then
 some false
else 
(impl_Program_isCommand_L0 p c c.2 (c.2.2.length : Int) 0).bind fun r1 =>
 match r1 with
| .inl y =>
 some y
| .inr z =>
 some true := Eq.trans (inf_call_eq (H := H) 60 (p, c)) (by kernel_rfl)
theorem impl_GoodProgram_1_eq (c : DCommand) (a1 : DProgram) : impl_GoodProgram_1 c a1 =
(impl_Program_isCommand a1 c).bind fun r =>
 some (!r) := Eq.trans (inf_call_eq (H := H) 59 (c, a1)) (by kernel_rfl)
theorem slices_IndexFunc_Command_by_GoodProgram_1_L0_eq (s : Bool × List DCommand) (f : DProgram × Unit) (t7 : Int) (t8 : Int) : slices_IndexFunc_Command_by_GoodProgram_1_L0 s f t7 t8 =
 bif decide (t8 < t7) then
 bif decide (0 ≤ t8) then
 bif decide (t8 < (s.2.length : Int)) then
(impl_GoodProgram_1 (s.2.getD (Int.toNat t8) ((true, []), (true, []))) f.1).bind fun r =>
 bif r then
 some (.inl t8)
else 
(slices_IndexFunc_Command_by_GoodProgram_1_L0 s f t7 (IntKind.i64.wrap (t8 + 1))).bind fun r => some r
else none
else none
else 
 some (.inr ()) := Eq.trans (inf_loop_eq (H := H) 71 0 (loopCode Try.f71 0) (s, (f, (t7, t8))) key_slices_IndexFunc_Command_by_GoodProgram_1) (by kernel_rfl)
theorem slices_IndexFunc_Command_by_GoodProgram_1_eq (s : Bool × List DCommand) (f : DProgram × Unit) : slices_IndexFunc_Command_by_GoodProgram_1 s f =
(slices_IndexFunc_Command_by_GoodProgram_1_L0 s f (s.2.length : Int) 0).bind fun r =>
 match r with
| .inl y =>
 some y
| .inr z =>
 some (-1) := Eq.trans (inf_call_eq (H := H) 71 (s, f)) (by kernel_rfl)
theorem slices_ContainsFunc_Command_by_GoodProgram_1_eq (s : Bool × List DCommand) (f : DProgram × Unit) : slices_ContainsFunc_Command_by_GoodProgram_1 s f =
(slices_IndexFunc_Command_by_GoodProgram_1 s f).bind fun r =>
 some (decide (r ≥ 0)) := Eq.trans (inf_call_eq (H := H) 58 (s, f)) (by kernel_rfl)
theorem impl_GoodProgram_eq (p : DProgram) : impl_GoodProgram p =
(impl_isWide p.1).bind fun r =>
 bif !r then
 some false
else 
(impl_isVars p.2.1).bind fun r1 =>
 bif !r1 then
 some false
else 
(impl_Program_isCondition p p.2.2.1).bind fun r2 =>
 bif !r2 then
 some false
else 
 bif decide ((p.2.2.2.2.length : Int) < 1) then
 some false
else 
 bif decide ((p.2.2.2.2.length : Int) > 6) then
 some false
else 
(slices_ContainsFunc_Command_by_GoodProgram_1 p.2.2.2 (p, ())).bind fun r3 =>
 some (!r3) := Eq.trans (inf_call_eq (H := H) 41 p) (by kernel_rfl)
theorem impl_Program_isCommandNo_eq (p : DProgram) (k_ : Int) : impl_Program_isCommandNo p k_ =
 bif decide (k_ ≥ 0) then
 some (decide (k_ < (p.2.2.2.2.length : Int)))
else 
 some false := Eq.trans (inf_call_eq (H := H) 27 (p, k_)) (by kernel_rfl)
theorem impl_isBefore_eq (p : DProgram) (k_ : Int) (t : Bool × List DNode) : impl_isBefore p k_ t =
(impl_GoodProgram p).bind fun r =>
 bif r then
(impl_Program_isCommandNo p k_).bind fun r1 =>
 bif r1 then
(impl_Program_isCondition p t).bind fun r2 =>
 some r2
else 
 some false
else 
 some false := Eq.trans (inf_call_eq (H := H) 24 (p, (k_, t))) (by kernel_rfl)
theorem impl_AlongBefore_1_eq (k_ : Int) (a1 : DProgram) : impl_AlongBefore_1 k_ a1 =
(impl_Program_isCommandNo a1 k_).bind fun r =>
 some (!r) := Eq.trans (inf_call_eq (H := H) 26 (k_, a1)) (by kernel_rfl)
theorem slices_IndexFunc_int_by_AlongBefore_1_L0_eq (s : Bool × List Int) (f : DProgram × Unit) (t7 : Int) (t8 : Int) : slices_IndexFunc_int_by_AlongBefore_1_L0 s f t7 t8 =
 bif decide (t8 < t7) then
 bif decide (0 ≤ t8) then
 bif decide (t8 < (s.2.length : Int)) then
(impl_AlongBefore_1 (s.2.getD (Int.toNat t8) 0) f.1).bind fun r =>
 bif r then
 some (.inl t8)
else 
(slices_IndexFunc_int_by_AlongBefore_1_L0 s f t7 (IntKind.i64.wrap (t8 + 1))).bind fun r => some r
else none
else none
else 
 some (.inr ()) := Eq.trans (inf_loop_eq (H := H) 10055 0 (loopCode Try.f43 0) (s, (f, (t7, t8))) key_slices_IndexFunc_int_by_AlongBefore_1) (by kernel_rfl)
theorem slices_IndexFunc_int_by_AlongBefore_1_eq (s : Bool × List Int) (f : DProgram × Unit) : slices_IndexFunc_int_by_AlongBefore_1 s f =
(slices_IndexFunc_int_by_AlongBefore_1_L0 s f (s.2.length : Int) 0).bind fun r =>
 match r with
| .inl y =>
 some y
| .inr z =>
 some (-1) := Eq.trans (inf_call_eq (H := H) 10055 (s, f)) (by kernel_rfl)
theorem slices_ContainsFunc_int_by_AlongBefore_1_eq (s : Bool × List Int) (f : DProgram × Unit) : slices_ContainsFunc_int_by_AlongBefore_1 s f =
(slices_IndexFunc_int_by_AlongBefore_1 s f).bind fun r =>
 some (decide (r ≥ 0)) := Eq.trans (inf_call_eq (H := H) 10054 (s, f)) (by kernel_rfl)
theorem slices_Clone_Node_eq (s : Bool × List DNode) : slices_Clone_Node s =
 bif s.1 then
 some (true, [])
else 
 bif decide (([] : List DNode).length + s.2.length ≤ lim) then
 some (false, ([] ++ s.2))
else none := Eq.trans (inf_call_eq (H := H) 28 s) (by kernel_rfl)
theorem impl_PutAll_1_eq (own : Bool × List DNode) (a1 : Int) (a2 : Int) : impl_PutAll_1 own a1 a2 =
(impl_isTermOf a1 a2 own 1).bind fun r =>
 some (!r) := Eq.trans (inf_call_eq (H := H) 74 (own, (a1, a2))) (by kernel_rfl)
theorem slices_IndexFunc_Node_by_PutAll_1_L0_eq (s : Bool × List (Bool × List DNode)) (f : Int × Int × Unit) (t7 : Int) (t8 : Int) : slices_IndexFunc_Node_by_PutAll_1_L0 s f t7 t8 =
 bif decide (t8 < t7) then
 bif decide (0 ≤ t8) then
 bif decide (t8 < (s.2.length : Int)) then
(impl_PutAll_1 (s.2.getD (Int.toNat t8) (true, [])) f.1 f.2.1).bind fun r =>
 bif r then
 some (.inl t8)
else 
(slices_IndexFunc_Node_by_PutAll_1_L0 s f t7 (IntKind.i64.wrap (t8 + 1))).bind fun r => some r
else none
else none
else 
 some (.inr ()) := Eq.trans (inf_loop_eq (H := H) 80 0 (loopCode Try.f80 0) (s, (f, (t7, t8))) key_slices_IndexFunc_Node_by_PutAll_1) (by kernel_rfl)
theorem slices_IndexFunc_Node_by_PutAll_1_eq (s : Bool × List (Bool × List DNode)) (f : Int × Int × Unit) : slices_IndexFunc_Node_by_PutAll_1 s f =
(slices_IndexFunc_Node_by_PutAll_1_L0 s f (s.2.length : Int) 0).bind fun r =>
 match r with
| .inl y =>
 some y
| .inr z =>
 some (-1) := Eq.trans (inf_call_eq (H := H) 80 (s, f)) (by kernel_rfl)
theorem slices_ContainsFunc_Node_by_PutAll_1_eq (s : Bool × List (Bool × List DNode)) (f : Int × Int × Unit) : slices_ContainsFunc_Node_by_PutAll_1 s f =
(slices_IndexFunc_Node_by_PutAll_1 s f).bind fun r =>
 some (decide (r ≥ 0)) := Eq.trans (inf_call_eq (H := H) 73 (s, f)) (by kernel_rfl)
theorem impl_checkedTerm_eq (wide : Int) (vars : Int) (t : Bool × List DNode) : impl_checkedTerm wide vars t =
(impl_GoodTerm wide vars t).bind fun r =>
 bif !r then
 some ((true, []), false)
else 
 some (t, true) := Eq.trans (inf_call_eq (H := H) 46 (wide, (vars, t))) (by kernel_rfl)
theorem impl_PutAll_L0_eq (by_ : Bool × List (Bool × List DNode)) (wide : Int) (vars : Int) (out : Bool × List DNode) (t30 : Bool × List DNode) (t31 : Int) (t32 : Int) : impl_PutAll_L0 by_ wide vars out t30 t31 t32 =
 bif decide (t32 < t31) then
 bif decide (0 ≤ t32) then
 bif decide (t32 < (t30.2.length : Int)) then
 bif (((t30.2.getD (Int.toNat t32) (0, 0)).1) == 2) then
 bif decide (0 ≤ ((t30.2.getD (Int.toNat t32) (0, 0)).2)) then
 bif decide (((t30.2.getD (Int.toNat t32) (0, 0)).2) < (by_.2.length : Int)) then
 bif decide (out.2.length + ((by_.2.getD (Int.toNat ((t30.2.getD (Int.toNat t32) (0, 0)).2)) (true, [])).2 : List DNode).length ≤ lim) then
(impl_PutAll_L0 by_ wide vars ((out.1 && ((by_.2.getD (Int.toNat ((t30.2.getD (Int.toNat t32) (0, 0)).2)) (true, [])).2).isEmpty), (out.2 ++ ((by_.2.getD (Int.toNat ((t30.2.getD (Int.toNat t32) (0, 0)).2)) (true, [])).2))) t30 t31 (IntKind.i64.wrap (t32 + 1))).bind fun r => some r
else none
else none
else none
else 
 bif decide (out.2.length + [(t30.2.getD (Int.toNat t32) (0, 0))].length ≤ lim) then
(impl_PutAll_L0 by_ wide vars ((out.1 && false), (out.2 ++ [(t30.2.getD (Int.toNat t32) (0, 0))])) t30 t31 (IntKind.i64.wrap (t32 + 1))).bind fun r => some r
else none
else none
else none
else 
 some (out.1, out.2) := Eq.trans (inf_loop_eq (H := H) 62 0 (loopCode Try.f62 0) (by_, (wide, (vars, (out, (t30, (t31, t32)))))) key_impl_PutAll) (by kernel_rfl)
theorem impl_PutAll_eq (wide : Int) (vars : Int) (t : Bool × List DNode) (by_ : Bool × List (Bool × List DNode)) : impl_PutAll wide vars t by_ =
(impl_GoodTerm wide vars t).bind fun r =>
 bif !r then
 some ((true, []), false)
else 
 bif ((by_.2.length : Int) != vars) then
 some ((true, []), false)
else 
(slices_ContainsFunc_Node_by_PutAll_1 by_ (wide, (vars, ()))).bind fun r1 =>
 bif r1 then
 some ((true, []), false)
else 
(impl_PutAll_L0 by_ wide vars (false, []) t (t.2.length : Int) 0).bind fun r2 =>
(impl_checkedTerm wide vars (r2.1, r2.2)).bind fun r3 =>
 some (r3.1, r3.2) := Eq.trans (inf_call_eq (H := H) 62 (wide, (vars, (t, by_)))) (by kernel_rfl)
theorem impl_Program_beforeOne_L0_eq (k_ : Int) (t : Bool × List DNode) (p : DProgram) (by_ : Bool × List (Bool × List DNode)) (t14 : Int) (t15 : Int) : impl_Program_beforeOne_L0 k_ t p by_ t14 t15 =
 bif decide (t15 < t14) then
 bif decide (by_.2.length + [(false, [(2, IntKind.u64.wrap t15)])].length ≤ lim) then
(impl_Program_beforeOne_L0 k_ t p ((by_.1 && false), (by_.2 ++ [(false, [(2, IntKind.u64.wrap t15)])])) t14 (IntKind.i64.wrap (t15 + 1))).bind fun r => some r
else none
else 
 some (by_.1, by_.2) := Eq.trans (inf_loop_eq (H := H) 45 0 (loopCode Try.f45 0) (k_, (t, (p, (by_, (t14, t15))))) key_impl_Program_beforeOne) (by kernel_rfl)
theorem impl_Program_beforeOne_L2_eq (t : Bool × List DNode) (p : DProgram) (by_ : Bool × List (Bool × List DNode)) (t31 : Bool × List DChange) (t32 : Int) (t33 : Int) : impl_Program_beforeOne_L2 t p by_ t31 t32 t33 =
 bif decide (t33 < t32) then
 bif decide (0 ≤ t33) then
 bif decide (t33 < (t31.2.length : Int)) then
 bif decide (0 ≤ ((t31.2.getD (Int.toNat t33) (0, (true, []))).1)) then
 bif decide (((t31.2.getD (Int.toNat t33) (0, (true, []))).1) < (by_.2.length : Int)) then
(impl_Program_beforeOne_L2 t p (by_.1, (by_.2.set (Int.toNat ((t31.2.getD (Int.toNat t33) (0, (true, []))).1)) ((t31.2.getD (Int.toNat t33) (0, (true, []))).2))) t31 t32 (IntKind.i64.wrap (t33 + 1))).bind fun r => some r
else none
else none
else none
else none
else 
 some (by_.1, by_.2) := Eq.trans (inf_loop_eq (H := H) 45 2 (loopCode Try.f45 2) (t, (p, (by_, (t31, (t32, t33))))) key_impl_Program_beforeOne) (by kernel_rfl)
theorem impl_Program_beforeOne_eq (p : DProgram) (k_ : Int) (t : Bool × List DNode) : impl_Program_beforeOne p k_ t =
(impl_Program_beforeOne_L0 k_ t p (false, []) p.2.1 0).bind fun r =>
 bif decide (0 ≤ k_) then
 bif decide (k_ < (p.2.2.2.2.length : Int)) then
(impl_Program_beforeOne_L2 t p (r.1, r.2) ((p.2.2.2.2.getD (Int.toNat k_) ((true, []), (true, []))).2) ((((p.2.2.2.2.getD (Int.toNat k_) ((true, []), (true, []))).2).2).length : Int) 0).bind fun r1 =>
(impl_PutAll p.1 p.2.1 t (r1.1, r1.2)).bind fun r2 =>
 some (r2.1, r2.2)
else none
else none := Eq.trans (inf_call_eq (H := H) 45 (p, (k_, t))) (by kernel_rfl)
theorem slices_Grow_Node_eq (n : Int) : slices_Grow_Node n =
 bif decide (n < 0) then
 none
else 
 bif decide ((IntKind.i64.wrap (n - (IntKind.i64.wrap (0 - 0)))) > 0) then
 bif decide (0 ≤ (IntKind.i64.wrap (n - (IntKind.i64.wrap (0 - 0))))) then
 bif decide ((IntKind.i64.wrap (n - (IntKind.i64.wrap (0 - 0)))) ≤ lim) then
 bif decide (([] : List DNode).length + (List.replicate (Int.toNat (IntKind.i64.wrap (n - (IntKind.i64.wrap (0 - 0))))) ((0, 0) : DNode)).length ≤ lim) then
 bif decide (0 ≤ (([] ++ (List.replicate (Int.toNat (IntKind.i64.wrap (n - (IntKind.i64.wrap (0 - 0))))) ((0, 0) : DNode))).length : Int)) then
 some ((List.replicate (Int.toNat (IntKind.i64.wrap (n - (IntKind.i64.wrap (0 - 0))))) ((0, 0) : DNode)).isEmpty, ((([] ++ (List.replicate (Int.toNat (IntKind.i64.wrap (n - (IntKind.i64.wrap (0 - 0))))) ((0, 0) : DNode))).take 0).drop 0))
else none
else none
else none
else none
else 
 some (true, []) := Eq.trans (inf_call_eq (H := H) 64 n) (by kernel_rfl)
theorem slices_Concat_Node_L0_eq (slices : Bool × List (Bool × List DNode)) (size_ : Int) (t9 : Bool × List (Bool × List DNode)) (t10 : Int) (t11 : Int) : slices_Concat_Node_L0 slices size_ t9 t10 t11 =
 bif decide (t11 < t10) then
 bif decide (0 ≤ t11) then
 bif decide (t11 < (t9.2.length : Int)) then
 bif decide ((IntKind.i64.wrap (size_ + (((t9.2.getD (Int.toNat t11) (true, [])).2).length : Int))) < 0) then
 none
else 
(slices_Concat_Node_L0 slices (IntKind.i64.wrap (size_ + (((t9.2.getD (Int.toNat t11) (true, [])).2).length : Int))) t9 t10 (IntKind.i64.wrap (t11 + 1))).bind fun r => some r
else none
else none
else 
 some size_ := Eq.trans (inf_loop_eq (H := H) 47 0 (loopCode Try.f47 0) (slices, (size_, (t9, (t10, t11)))) key_slices_Concat_Node) (by kernel_rfl)
theorem slices_Concat_Node_L2_eq (newslice : Bool × List DNode) (t25 : Bool × List (Bool × List DNode)) (t26 : Int) (t27 : Int) : slices_Concat_Node_L2 newslice t25 t26 t27 =
 bif decide (t27 < t26) then
 bif decide (0 ≤ t27) then
 bif decide (t27 < (t25.2.length : Int)) then
 bif decide (newslice.2.length + ((t25.2.getD (Int.toNat t27) (true, [])).2 : List DNode).length ≤ lim) then
(slices_Concat_Node_L2 ((newslice.1 && ((t25.2.getD (Int.toNat t27) (true, [])).2).isEmpty), (newslice.2 ++ ((t25.2.getD (Int.toNat t27) (true, [])).2))) t25 t26 (IntKind.i64.wrap (t27 + 1))).bind fun r => some r
else none
else none
else none
else 
 some (newslice.1, newslice.2) := Eq.trans (inf_loop_eq (H := H) 47 2 (loopCode Try.f47 2) (newslice, (t25, (t26, t27))) key_slices_Concat_Node) (by kernel_rfl)
theorem slices_Concat_Node_eq (slices : Bool × List (Bool × List DNode)) : slices_Concat_Node slices =
(slices_Concat_Node_L0 slices 0 slices (slices.2.length : Int) 0).bind fun r =>
(slices_Grow_Node r).bind fun r1 =>
(slices_Concat_Node_L2 (r1.1, r1.2) slices (slices.2.length : Int) 0).bind fun r2 =>
 some (r2.1, r2.2) := Eq.trans (inf_call_eq (H := H) 47 slices) (by kernel_rfl)
theorem impl_checkedTerm_2_eq (wide : Int) (vars : Int) (t : Bool × List DNode) : impl_checkedTerm_2 wide vars t =
(impl_GoodTerm wide vars (t.1, t.2)).bind fun r =>
 bif !r then
 some ((true, []), false)
else 
 some ((t.1, t.2), true) := Eq.trans (inf_call_eq (H := H) 10067 (wide, (vars, t))) (by kernel_rfl)
theorem impl_Program_beforeIf_eq (p : DProgram) (k_ : Int) (t : Bool × List DNode) : impl_Program_beforeIf p k_ t =
(impl_Program_beforeOne p k_ t).bind fun r =>
 bif !r.2 then
 some ((true, []), false)
else 
 bif decide (0 ≤ k_) then
 bif decide (k_ < (p.2.2.2.2.length : Int)) then
(slices_Concat_Node (false, [(p.2.2.2.2.getD (Int.toNat k_) ((true, []), (true, []))).1, (false, [(19, 0)]), r.1, (false, [(18, 0)])])).bind fun r1 =>
(impl_checkedTerm_2 p.1 p.2.1 (r1.1, r1.2)).bind fun r2 =>
 some ((r2.1.1, r2.1.2), r2.2)
else none
else none := Eq.trans (inf_call_eq (H := H) 30 (p, (k_, t))) (by kernel_rfl)
theorem impl_AlongBefore_L0_eq (p : DProgram) (t6 : Bool × List DNode) (t7 : Bool) (out : Bool × List DNode) (t30 : Bool × List Int) (t31 : Int) : impl_AlongBefore_L0 p t6 t7 out t30 t31 =
 bif decide (t31 < 0) then
 some (.inl ((t6.1, t6.2), (t7, (out.1, out.2))))
else 
 bif decide (t31 < (t30.2.length : Int)) then
(impl_Program_beforeIf p (t30.2.getD (Int.toNat t31) 0) (out.1, out.2)).bind fun r =>
 bif !r.2 then
 some (.inr (false, (out.1, out.2)))
else 
(impl_AlongBefore_L0 p (t6.1, t6.2) t7 (r.1.1, r.1.2) t30 (t31 - 1)).bind fun r => some r
else none := Eq.trans (inf_loop_eq (H := H) 10 0 (loopCode Try.f10 0) (p, (t6, (t7, (out, (t30, t31))))) key_impl_AlongBefore) (by kernel_rfl)
theorem impl_AlongBefore_eq (p : DProgram) (ks : Bool × List Int) (t : Bool × List DNode) : impl_AlongBefore p ks t =
(impl_isBefore p 0 t).bind fun r =>
 bif !r then
 some ((true, []), false)
else 
 bif decide ((ks.2.length : Int) > 10) then
 some ((true, []), false)
else 
(slices_ContainsFunc_int_by_AlongBefore_1 ks (p, ())).bind fun r1 =>
 bif r1 then
 some ((true, []), false)
else 
(slices_Clone_Node t).bind fun r2 =>
(impl_AlongBefore_L0 p (true, []) false (r2.1, r2.2) ks ((ks.2.length : Int) - 1)).bind fun r3 =>
 match r3 with
| .inl y =>
 some ((y.2.2.1, y.2.2.2), true)
| .inr z =>
 some ((true, []), z.1) := Eq.trans (inf_call_eq (H := H) 10 (p, (ks, t))) (by kernel_rfl)
theorem laws_eqNode_eq (a : DNode) (b : DNode) : laws_eqNode a b =
 bif (a.1 != b.1) then
 some false
else 
 bif (a.2 != b.2) then
 some false
else 
 some true := Eq.trans (inf_call_eq (H := H) 31 (a, b)) (by kernel_rfl)
theorem laws_eqNodeS_L0_eq (a : Bool × List DNode) (b : Bool × List DNode) (i : Int) : laws_eqNodeS_L0 a b i =
 bif decide (i < (a.2.length : Int)) then
 bif decide (0 ≤ i) then
 bif decide (i < (a.2.length : Int)) then
 bif decide (0 ≤ i) then
 bif decide (i < (b.2.length : Int)) then
(laws_eqNode (a.2.getD (Int.toNat i) (0, 0)) (b.2.getD (Int.toNat i) (0, 0))).bind fun r =>
 bif !r then
 some (.inl false)
else 
(laws_eqNodeS_L0 a b (IntKind.i64.wrap (i + 1))).bind fun r => some r
else none
else none
else none
else none
else 
 some (.inr ()) := Eq.trans (inf_loop_eq (H := H) 11 0 (loopCode Try.f11 0) (a, (b, i)) key_laws_eqNodeS) (by kernel_rfl)
theorem laws_eqNodeS_eq (a : Bool × List DNode) (b : Bool × List DNode) : laws_eqNodeS a b =
 bif ((a.2.length : Int) != (b.2.length : Int)) then
 some false
else 
(laws_eqNodeS_L0 a b 0).bind fun r =>
 match r with
| .inl y =>
 some y
| .inr z =>
 some true := Eq.trans (inf_call_eq (H := H) 11 (a, b)) (by kernel_rfl)
theorem laws_eqChange_eq (a : DChange) (b : DChange) : laws_eqChange a b =
 bif (a.1 != b.1) then
 some false
else 
(laws_eqNodeS a.2 b.2).bind fun r =>
 bif !r then
 some false
else 
 some true := Eq.trans (inf_call_eq (H := H) 78 (a, b)) (by kernel_rfl)
theorem laws_eqChangeS_L0_eq (a : Bool × List DChange) (b : Bool × List DChange) (i : Int) : laws_eqChangeS_L0 a b i =
 bif decide (i < (a.2.length : Int)) then
 bif decide (0 ≤ i) then
 bif decide (i < (a.2.length : Int)) then
 bif decide (0 ≤ i) then
 bif decide (i < (b.2.length : Int)) then
(laws_eqChange (a.2.getD (Int.toNat i) (0, (true, []))) (b.2.getD (Int.toNat i) (0, (true, [])))).bind fun r =>
 bif !r then
 some (.inl false)
else 
(laws_eqChangeS_L0 a b (IntKind.i64.wrap (i + 1))).bind fun r => some r
else none
else none
else none
else none
else 
 some (.inr ()) := Eq.trans (inf_loop_eq (H := H) 65 0 (loopCode Try.f65 0) (a, (b, i)) key_laws_eqChangeS) (by kernel_rfl)
theorem laws_eqChangeS_eq (a : Bool × List DChange) (b : Bool × List DChange) : laws_eqChangeS a b =
 bif ((a.2.length : Int) != (b.2.length : Int)) then
 some false
else 
(laws_eqChangeS_L0 a b 0).bind fun r =>
 match r with
| .inl y =>
 some y
| .inr z =>
 some true := Eq.trans (inf_call_eq (H := H) 65 (a, b)) (by kernel_rfl)
theorem laws_eqCommand_eq (a : DCommand) (b : DCommand) : laws_eqCommand a b =
(laws_eqNodeS a.1 b.1).bind fun r =>
 bif !r then
 some false
else 
(laws_eqChangeS a.2 b.2).bind fun r1 =>
 bif !r1 then
 some false
else 
 some true := Eq.trans (inf_call_eq (H := H) 48 (a, b)) (by kernel_rfl)
theorem laws_eqCommandS_L0_eq (a : Bool × List DCommand) (b : Bool × List DCommand) (i : Int) : laws_eqCommandS_L0 a b i =
 bif decide (i < (a.2.length : Int)) then
 bif decide (0 ≤ i) then
 bif decide (i < (a.2.length : Int)) then
 bif decide (0 ≤ i) then
 bif decide (i < (b.2.length : Int)) then
(laws_eqCommand (a.2.getD (Int.toNat i) ((true, []), (true, []))) (b.2.getD (Int.toNat i) ((true, []), (true, [])))).bind fun r =>
 bif !r then
 some (.inl false)
else 
(laws_eqCommandS_L0 a b (IntKind.i64.wrap (i + 1))).bind fun r => some r
else none
else none
else none
else none
else 
 some (.inr ()) := Eq.trans (inf_loop_eq (H := H) 32 0 (loopCode Try.f32 0) (a, (b, i)) key_laws_eqCommandS) (by kernel_rfl)
theorem laws_eqCommandS_eq (a : Bool × List DCommand) (b : Bool × List DCommand) : laws_eqCommandS a b =
 bif ((a.2.length : Int) != (b.2.length : Int)) then
 some false
else 
(laws_eqCommandS_L0 a b 0).bind fun r =>
 match r with
| .inl y =>
 some y
| .inr z =>
 some true := Eq.trans (inf_call_eq (H := H) 32 (a, b)) (by kernel_rfl)
theorem laws_eqProgram_eq (a : DProgram) (b : DProgram) : laws_eqProgram a b =
 bif (a.1 != b.1) then
 some false
else 
 bif (a.2.1 != b.2.1) then
 some false
else 
(laws_eqNodeS a.2.2.1 b.2.2.1).bind fun r =>
 bif !r then
 some false
else 
(laws_eqCommandS a.2.2.2 b.2.2.2).bind fun r1 =>
 bif !r1 then
 some false
else 
 some true := Eq.trans (inf_call_eq (H := H) 12 (a, b)) (by kernel_rfl)
theorem laws_eqIntS_L0_eq (a : Bool × List Int) (b : Bool × List Int) (i : Int) : laws_eqIntS_L0 a b i =
 bif decide (i < (a.2.length : Int)) then
 bif decide (0 ≤ i) then
 bif decide (i < (a.2.length : Int)) then
 bif decide (0 ≤ i) then
 bif decide (i < (b.2.length : Int)) then
 bif ((a.2.getD (Int.toNat i) 0) != (b.2.getD (Int.toNat i) 0)) then
 some (.inl false)
else 
(laws_eqIntS_L0 a b (IntKind.i64.wrap (i + 1))).bind fun r => some r
else none
else none
else none
else none
else 
 some (.inr ()) := Eq.trans (inf_loop_eq (H := H) 13 0 (loopCode Try.f13 0) (a, (b, i)) key_laws_eqIntS) (by kernel_rfl)
theorem laws_eqIntS_eq (a : Bool × List Int) (b : Bool × List Int) : laws_eqIntS a b =
 bif ((a.2.length : Int) != (b.2.length : Int)) then
 some false
else 
(laws_eqIntS_L0 a b 0).bind fun r =>
 match r with
| .inl y =>
 some y
| .inr z =>
 some true := Eq.trans (inf_call_eq (H := H) 13 (a, b)) (by kernel_rfl)
theorem laws_markNodeS_L0_eq (a : Bool × List DNode) (k_ : Int) (i : Int) : laws_markNodeS_L0 a k_ i =
 bif decide (i < (a.2.length : Int)) then
 bif decide (0 ≤ i) then
 bif decide (i < (a.2.length : Int)) then
 bif decide (0 ≤ i) then
 bif decide (i < ((a.2.set (Int.toNat i) (k_, (a.2.getD (Int.toNat i) (0, 0)).2)).length : Int)) then
(laws_markNodeS_L0 (a.1, ((a.2.set (Int.toNat i) (k_, (a.2.getD (Int.toNat i) (0, 0)).2)).set (Int.toNat i) (((a.2.set (Int.toNat i) (k_, (a.2.getD (Int.toNat i) (0, 0)).2)).getD (Int.toNat i) (0, 0)).1, IntKind.u64.wrap (IntKind.i64.wrap (k_ + 1))))) (IntKind.i64.wrap ((IntKind.i64.wrap (k_ + 1)) + 1)) (IntKind.i64.wrap (i + 1))).bind fun r => some r
else none
else none
else none
else none
else 
 some ((a.1, a.2), k_) := Eq.trans (inf_loop_eq (H := H) 16 0 (loopCode Try.f16 0) (a, (k_, i)) key_laws_markNodeS) (by kernel_rfl)
theorem laws_markNodeS_eq (a : Bool × List DNode) (k_ : Int) : laws_markNodeS a k_ =
(laws_markNodeS_L0 (a.1, a.2) k_ 0).bind fun r =>
 some ((r.1.1, r.1.2), r.2) := Eq.trans (inf_call_eq (H := H) 16 (a, k_)) (by kernel_rfl)
theorem laws_markChangeS_L0_eq (a : Bool × List DChange) (k_ : Int) (i : Int) : laws_markChangeS_L0 a k_ i =
 bif decide (i < (a.2.length : Int)) then
 bif decide (0 ≤ i) then
 bif decide (i < (a.2.length : Int)) then
 bif decide (0 ≤ i) then
 bif decide (i < ((a.2.set (Int.toNat i) (k_, (a.2.getD (Int.toNat i) (0, (true, []))).2)).length : Int)) then
(laws_markNodeS ((((a.2.set (Int.toNat i) (k_, (a.2.getD (Int.toNat i) (0, (true, []))).2)).getD (Int.toNat i) (0, (true, []))).2).1, (((a.2.set (Int.toNat i) (k_, (a.2.getD (Int.toNat i) (0, (true, []))).2)).getD (Int.toNat i) (0, (true, []))).2).2) (IntKind.i64.wrap (k_ + 1))).bind fun r =>
(laws_markChangeS_L0 (a.1, ((a.2.set (Int.toNat i) (k_, (a.2.getD (Int.toNat i) (0, (true, []))).2)).set (Int.toNat i) (((a.2.set (Int.toNat i) (k_, (a.2.getD (Int.toNat i) (0, (true, []))).2)).getD (Int.toNat i) (0, (true, []))).1, (r.1.1, r.1.2)))) r.2 (IntKind.i64.wrap (i + 1))).bind fun r => some r
else none
else none
else none
else none
else 
 some ((a.1, a.2), k_) := Eq.trans (inf_loop_eq (H := H) 49 0 (loopCode Try.f49 0) (a, (k_, i)) key_laws_markChangeS) (by kernel_rfl)
theorem laws_markChangeS_eq (a : Bool × List DChange) (k_ : Int) : laws_markChangeS a k_ =
(laws_markChangeS_L0 (a.1, a.2) k_ 0).bind fun r =>
 some ((r.1.1, r.1.2), r.2) := Eq.trans (inf_call_eq (H := H) 49 (a, k_)) (by kernel_rfl)
theorem laws_markCommandS_L0_eq (a : Bool × List DCommand) (k_ : Int) (i : Int) : laws_markCommandS_L0 a k_ i =
 bif decide (i < (a.2.length : Int)) then
 bif decide (0 ≤ i) then
 bif decide (i < (a.2.length : Int)) then
(laws_markNodeS (((a.2.getD (Int.toNat i) ((true, []), (true, []))).1).1, ((a.2.getD (Int.toNat i) ((true, []), (true, []))).1).2) k_).bind fun r =>
 bif decide (0 ≤ i) then
 bif decide (i < (a.2.length : Int)) then
(laws_markChangeS ((((a.2.set (Int.toNat i) ((r.1.1, r.1.2), (a.2.getD (Int.toNat i) ((true, []), (true, []))).2)).getD (Int.toNat i) ((true, []), (true, []))).2).1, (((a.2.set (Int.toNat i) ((r.1.1, r.1.2), (a.2.getD (Int.toNat i) ((true, []), (true, []))).2)).getD (Int.toNat i) ((true, []), (true, []))).2).2) r.2).bind fun r1 =>
(laws_markCommandS_L0 (a.1, ((a.2.set (Int.toNat i) ((r.1.1, r.1.2), (a.2.getD (Int.toNat i) ((true, []), (true, []))).2)).set (Int.toNat i) (((a.2.set (Int.toNat i) ((r.1.1, r.1.2), (a.2.getD (Int.toNat i) ((true, []), (true, []))).2)).getD (Int.toNat i) ((true, []), (true, []))).1, (r1.1.1, r1.1.2)))) r1.2 (IntKind.i64.wrap (i + 1))).bind fun r => some r
else none
else none
else none
else none
else 
 some ((a.1, a.2), k_) := Eq.trans (inf_loop_eq (H := H) 33 0 (loopCode Try.f33 0) (a, (k_, i)) key_laws_markCommandS) (by kernel_rfl)
theorem laws_markCommandS_eq (a : Bool × List DCommand) (k_ : Int) : laws_markCommandS a k_ =
(laws_markCommandS_L0 (a.1, a.2) k_ 0).bind fun r =>
 some ((r.1.1, r.1.2), r.2) := Eq.trans (inf_call_eq (H := H) 33 (a, k_)) (by kernel_rfl)
theorem laws_markProgram_eq (a0_0 : Int) (a0_1 : Int) (a0_2 : Bool × List DNode) (a0_3 : Bool × List DCommand) (k_ : Int) : laws_markProgram a0_0 a0_1 a0_2 a0_3 k_ =
(laws_markNodeS (a0_2.1, a0_2.2) k_).bind fun r =>
(laws_markCommandS (a0_3.1, a0_3.2) r.2).bind fun r1 =>
 some ((r.1.1, r.1.2), ((r1.1.1, r1.1.2), r1.2)) := Eq.trans (inf_call_eq (H := H) 14 (a0_0, (a0_1, (a0_2, (a0_3, k_))))) (by kernel_rfl)
theorem laws_markIntS_L0_eq (a : Bool × List Int) (k_ : Int) (i : Int) : laws_markIntS_L0 a k_ i =
 bif decide (i < (a.2.length : Int)) then
 bif decide (0 ≤ i) then
 bif decide (i < (a.2.length : Int)) then
(laws_markIntS_L0 (a.1, (a.2.set (Int.toNat i) k_)) (IntKind.i64.wrap (k_ + 1)) (IntKind.i64.wrap (i + 1))).bind fun r => some r
else none
else none
else 
 some ((a.1, a.2), k_) := Eq.trans (inf_loop_eq (H := H) 15 0 (loopCode Try.f15 0) (a, (k_, i)) key_laws_markIntS) (by kernel_rfl)
theorem laws_markIntS_eq (a : Bool × List Int) (k_ : Int) : laws_markIntS a k_ =
(laws_markIntS_L0 (a.1, a.2) k_ 0).bind fun r =>
 some ((r.1.1, r.1.2), r.2) := Eq.trans (inf_call_eq (H := H) 15 (a, k_)) (by kernel_rfl)
theorem laws_heldNodeS_L0_eq (a : Bool × List DNode) (k_ : Int) (i : Int) : laws_heldNodeS_L0 a k_ i =
 bif decide (i < (a.2.length : Int)) then
 bif decide (0 ≤ i) then
 bif decide (i < (a.2.length : Int)) then
 bif (((a.2.getD (Int.toNat i) (0, 0)).1) != k_) then
 some (.inl (-1))
else 
 bif decide (0 ≤ i) then
 bif decide (i < (a.2.length : Int)) then
 bif (((a.2.getD (Int.toNat i) (0, 0)).2) != (IntKind.u64.wrap (IntKind.i64.wrap (k_ + 1)))) then
 some (.inl (-1))
else 
(laws_heldNodeS_L0 a (IntKind.i64.wrap ((IntKind.i64.wrap (k_ + 1)) + 1)) (IntKind.i64.wrap (i + 1))).bind fun r => some r
else none
else none
else none
else none
else 
 some (.inr k_) := Eq.trans (inf_loop_eq (H := H) 17 0 (loopCode Try.f17 0) (a, (k_, i)) key_laws_heldNodeS) (by kernel_rfl)
theorem laws_heldNodeS_eq (a : Bool × List DNode) (k_ : Int) : laws_heldNodeS a k_ =
(laws_heldNodeS_L0 a k_ 0).bind fun r =>
 match r with
| .inl y =>
 some y
| .inr z =>
 some z := Eq.trans (inf_call_eq (H := H) 17 (a, k_)) (by kernel_rfl)
theorem laws_FnExactAlongBefore_eq (aP : DProgram) (aKs : Bool × List Int) (aT : Bool × List DNode) : laws_FnExactAlongBefore aP aKs aT =
 bif decide ((aKs.2.length : Int) > 1048576) then
 some true
else 
(laws_szProgram aP 1048576).bind fun r =>
 bif decide (r < 0) then
 some true
else 
(laws_szNodeS aT r).bind fun r1 =>
 bif decide (r1 < 0) then
 some true
else 
(laws_toProgram aP).bind fun r2 =>
(laws_toIntS aKs).bind fun r3 =>
(laws_toNodeS aT).bind fun r4 =>
(spec_AlongBefore (r2.1, (r2.2.1, ((r2.2.2.1.1, r2.2.2.1.2), (r2.2.2.2.1, r2.2.2.2.2)))) (r3.1, r3.2) (r4.1, r4.2)).bind fun r5 =>
(laws_toProgram aP).bind fun r6 =>
(laws_toIntS aKs).bind fun r7 =>
(laws_toNodeS aT).bind fun r8 =>
(impl_AlongBefore (r6.1, (r6.2.1, ((r6.2.2.1.1, r6.2.2.1.2), (r6.2.2.2.1, r6.2.2.2.2)))) (r7.1, r7.2) (r8.1, r8.2)).bind fun r9 =>
(laws_eqNodeS (r9.1.1, r9.1.2) r5.1).bind fun r10 =>
 bif !r10 then
 some false
else 
 bif !(r9.2 == r5.2) then
 some false
else 
(laws_toProgram aP).bind fun r11 =>
(laws_eqProgram (r6.1, (r6.2.1, ((r6.2.2.1.1, r6.2.2.1.2), (r6.2.2.2.1, r6.2.2.2.2)))) (r11.1, (r11.2.1, ((r11.2.2.1.1, r11.2.2.1.2), (r11.2.2.2.1, r11.2.2.2.2))))).bind fun r12 =>
 bif !r12 then
 some false
else 
(laws_toIntS aKs).bind fun r13 =>
(laws_eqIntS (r7.1, r7.2) (r13.1, r13.2)).bind fun r14 =>
 bif !r14 then
 some false
else 
(laws_toNodeS aT).bind fun r15 =>
(laws_eqNodeS (r8.1, r8.2) (r15.1, r15.2)).bind fun r16 =>
 bif !r16 then
 some false
else 
(laws_markProgram r6.1 r6.2.1 (r6.2.2.1.1, r6.2.2.1.2) (r6.2.2.2.1, r6.2.2.2.2) 1).bind fun r17 =>
(laws_markIntS (r7.1, r7.2) r17.2.2).bind fun r18 =>
(laws_markNodeS (r8.1, r8.2) r18.2).bind fun r19 =>
 bif decide (r19.2 < 0) then
 some false
else 
(laws_eqNodeS (r9.1.1, r9.1.2) r5.1).bind fun r20 =>
 bif !r20 then
 some false
else 
 bif !(r9.2 == r5.2) then
 some false
else 
(laws_markNodeS (r9.1.1, r9.1.2) 1).bind fun r21 =>
(laws_heldNodeS (r21.1.1, r21.1.2) 1).bind fun r22 =>
 bif decide (r22 < 0) then
 some false
else 
 bif (r22 != r21.2) then
 some false
else 
(laws_toProgram aP).bind fun r23 =>
(laws_toIntS aKs).bind fun r24 =>
(laws_toNodeS aT).bind fun r25 =>
(impl_AlongBefore (r23.1, (r23.2.1, ((r23.2.2.1.1, r23.2.2.1.2), (r23.2.2.2.1, r23.2.2.2.2)))) (r24.1, r24.2) (r25.1, r25.2)).bind fun r26 =>
(laws_eqNodeS (r26.1.1, r26.1.2) r5.1).bind fun r27 =>
 bif !r27 then
 some false
else 
 bif !(r26.2 == r5.2) then
 some false
else 
(laws_heldNodeS (r21.1.1, r21.1.2) 1).bind fun r28 =>
 bif decide (r28 < 0) then
 some false
else 
 bif (r28 != r21.2) then
 some false
else 
 some true := Eq.trans (inf_call_eq (H := H) 3 (aP, (aKs, aT))) (by kernel_rfl)
theorem fit : Fit Try.prog H := fit_of (exts := extsL) (tys := tysL) (cells := cellsL) (keys := keysL) (mtys := mtysL) rfl rfl rfl rfl rfl (iters := itersL) rfl (by kernel_rfl) (by kernel_rfl) (by kernel_rfl) ⟨⟨Try.func5, by kernel_rfl, by kernel_rfl⟩, ⟨Try.func66, by kernel_rfl, by kernel_rfl⟩, ⟨Try.func50, by kernel_rfl, by kernel_rfl⟩, ⟨Try.func34, by kernel_rfl, by kernel_rfl⟩, ⟨Try.func18, by kernel_rfl, by kernel_rfl⟩, ⟨Try.func4, by kernel_rfl, by kernel_rfl⟩, ⟨Try.func23, by kernel_rfl, by kernel_rfl⟩, ⟨Try.func9, by kernel_rfl, by kernel_rfl⟩, ⟨Try.func70, by kernel_rfl, by kernel_rfl⟩, ⟨Try.func55, by kernel_rfl, by kernel_rfl⟩, ⟨Try.func40, by kernel_rfl, by kernel_rfl⟩, ⟨Try.func22, by kernel_rfl, by kernel_rfl⟩, ⟨Try.func7, by kernel_rfl, by kernel_rfl⟩, ⟨Try.func8, by kernel_rfl, by kernel_rfl⟩, ⟨Try.func36, by kernel_rfl, by kernel_rfl⟩, ⟨Try.func67, by kernel_rfl, by kernel_rfl⟩, ⟨Try.func68, by kernel_rfl, by kernel_rfl⟩, ⟨Try.func82, by kernel_rfl, by kernel_rfl⟩, ⟨Try.func79, by kernel_rfl, by kernel_rfl⟩, ⟨Try.func69, by kernel_rfl, by kernel_rfl⟩, ⟨Try.func52, by kernel_rfl, by kernel_rfl⟩, ⟨Try.func37, by kernel_rfl, by kernel_rfl⟩, ⟨Try.func51, by kernel_rfl, by kernel_rfl⟩, ⟨Try.func35, by kernel_rfl, by kernel_rfl⟩, ⟨Try.func19, by kernel_rfl, by kernel_rfl⟩, ⟨Try.func20, by kernel_rfl, by kernel_rfl⟩, ⟨Try.func54, by kernel_rfl, by kernel_rfl⟩, ⟨Try.func39, by kernel_rfl, by kernel_rfl⟩, ⟨Try.func53, by kernel_rfl, by kernel_rfl⟩, ⟨Try.func38, by kernel_rfl, by kernel_rfl⟩, ⟨Try.func21, by kernel_rfl, by kernel_rfl⟩, ⟨Try.func6, by kernel_rfl, by kernel_rfl⟩, ⟨Try.func56, by kernel_rfl, by kernel_rfl⟩, ⟨Try.func57, by kernel_rfl, by kernel_rfl⟩, ⟨Try.func75, by kernel_rfl, by kernel_rfl⟩, ⟨Try.func83, by kernel_rfl, by kernel_rfl⟩, ⟨Try.func81, by kernel_rfl, by kernel_rfl⟩, ⟨Try.func76, by kernel_rfl, by kernel_rfl⟩, ⟨Try.func77, by kernel_rfl, by kernel_rfl⟩, ⟨Try.func43, by kernel_rfl, by kernel_rfl⟩, ⟨Try.func25, by kernel_rfl, by kernel_rfl⟩, ⟨Try.func63, by kernel_rfl, by kernel_rfl⟩, ⟨Try.func72, by kernel_rfl, by kernel_rfl⟩, ⟨Try.func61, by kernel_rfl, by kernel_rfl⟩, ⟨Try.func42, by kernel_rfl, by kernel_rfl⟩, ⟨Try.func60, by kernel_rfl, by kernel_rfl⟩, ⟨Try.func59, by kernel_rfl, by kernel_rfl⟩, ⟨Try.func71, by kernel_rfl, by kernel_rfl⟩, ⟨Try.func58, by kernel_rfl, by kernel_rfl⟩, ⟨Try.func41, by kernel_rfl, by kernel_rfl⟩, ⟨Try.func27, by kernel_rfl, by kernel_rfl⟩, ⟨Try.func24, by kernel_rfl, by kernel_rfl⟩, ⟨Try.func26, by kernel_rfl, by kernel_rfl⟩, ⟨Try.func43, by kernel_rfl, by kernel_rfl⟩, ⟨Try.func25, by kernel_rfl, by kernel_rfl⟩, ⟨Try.func28, by kernel_rfl, by kernel_rfl⟩, ⟨Try.func74, by kernel_rfl, by kernel_rfl⟩, ⟨Try.func80, by kernel_rfl, by kernel_rfl⟩, ⟨Try.func73, by kernel_rfl, by kernel_rfl⟩, ⟨Try.func46, by kernel_rfl, by kernel_rfl⟩, ⟨Try.func62, by kernel_rfl, by kernel_rfl⟩, ⟨Try.func45, by kernel_rfl, by kernel_rfl⟩, ⟨Try.func64, by kernel_rfl, by kernel_rfl⟩, ⟨Try.func47, by kernel_rfl, by kernel_rfl⟩, ⟨Try.func46, by kernel_rfl, by kernel_rfl⟩, ⟨Try.func30, by kernel_rfl, by kernel_rfl⟩, ⟨Try.func10, by kernel_rfl, by kernel_rfl⟩, ⟨Try.func31, by kernel_rfl, by kernel_rfl⟩, ⟨Try.func11, by kernel_rfl, by kernel_rfl⟩, ⟨Try.func78, by kernel_rfl, by kernel_rfl⟩, ⟨Try.func65, by kernel_rfl, by kernel_rfl⟩, ⟨Try.func48, by kernel_rfl, by kernel_rfl⟩, ⟨Try.func32, by kernel_rfl, by kernel_rfl⟩, ⟨Try.func12, by kernel_rfl, by kernel_rfl⟩, ⟨Try.func13, by kernel_rfl, by kernel_rfl⟩, ⟨Try.func16, by kernel_rfl, by kernel_rfl⟩, ⟨Try.func49, by kernel_rfl, by kernel_rfl⟩, ⟨Try.func33, by kernel_rfl, by kernel_rfl⟩, ⟨Try.func14, by kernel_rfl, by kernel_rfl⟩, ⟨Try.func15, by kernel_rfl, by kernel_rfl⟩, ⟨Try.func17, by kernel_rfl, by kernel_rfl⟩, ⟨Try.func3, by kernel_rfl, by kernel_rfl⟩, trivial⟩ ⟨back29, trivial⟩ ⟨⟨(.int .i64), by kernel_rfl, iter44⟩, trivial⟩ (by kernel_rfl)
theorem nats : NatOk Try.prog H := nat_of (keys := keysL) rfl ⟨.plain rfl, .plain rfl, .plain rfl, .plain rfl, .plain rfl, .plain rfl, .plain rfl, .plain rfl, .plain rfl, .plain rfl, .plain rfl, .plain rfl, .plain rfl, .plain rfl, .plain rfl, .plain rfl, .plain rfl, .plain rfl, .plain rfl, .plain rfl, .plain rfl, .plain rfl, .plain rfl, .plain rfl, .plain rfl, .plain rfl, .plain rfl, .plain rfl, .plain rfl, .plain rfl, .plain rfl, .plain rfl, .plain rfl, .plain rfl, .plain rfl, .plain rfl, .plain rfl, .plain rfl, .plain rfl, .plain rfl, .plain rfl, .plain rfl, .plain rfl, .plain rfl, .plain rfl, .plain rfl, .plain rfl, .plain rfl, .plain rfl, .plain rfl, .plain rfl, .plain rfl, .plain rfl, .plain rfl, .plain rfl, .plain rfl, .plain rfl, .plain rfl, .plain rfl, .plain rfl, .plain rfl, .plain rfl, .plain rfl, .plain rfl, .plain rfl, .plain rfl, .plain rfl, .plain rfl, .plain rfl, .plain rfl, .plain rfl, .plain rfl, .plain rfl, .plain rfl, .plain rfl, .plain rfl, .plain rfl, .plain rfl, .plain rfl, .plain rfl, .plain rfl, .plain rfl, trivial⟩
end Go.Proofs.Ytedfhboklcfanaa.R
