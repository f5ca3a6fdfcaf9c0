/- Kinds, signatures and loops of the functions that the laws reach, and what each computes. -/
import Derived.Test.YtdfccojbamlkdaaRfD
import Derived.Test.YtdfccojbamlkdaaProg
import Derived.KernelRfl
set_option linter.unusedVariables false
namespace Go.Proofs.Ytdfccojbamlkdaa.R
open Go.Rf Go.Proofs
def tyNode : Ty := (.pair (.int .i64) (.int .u64))
abbrev DNode := Int × Int
def tySpan : Ty := (.pair (.int .u64) (.int .u64))
abbrev DSpan := Int × Int
def tySight : Ty := (.one (.sl (.int .i64)))
abbrev DSight := Bool × List Int
def tyboundsError : Ty := (.pair (.int .i64) (.pair (.int .i64) (.pair .bool (.int .u8))))
abbrev DboundsError := Int × Int × Bool × Int
def tyProof : Ty := (.pair (.sl (.int .i64)) (.pair (.sl (.int .i64)) (.sl (.int .i64))))
abbrev DProof := (Bool × List Int) × (Bool × List Int) × Bool × List Int
def tyChange : Ty := (.pair (.int .i64) (.sl tyNode))
abbrev DChange := Int × Bool × List DNode
def tyCommand : Ty := (.pair (.sl tyNode) (.sl tyChange))
abbrev DCommand := (Bool × List DNode) × Bool × List DChange
def tyProgram : Ty := (.pair (.int .i64) (.pair (.int .i64) (.pair (.sl tyNode) (.sl tyCommand))))
abbrev DProgram := Int × Int × (Bool × List DNode) × Bool × List DCommand
noncomputable def h_laws_szNodeS : FnH := ⟨15, Try.f15, (.tup (.v (.sl tyNode)) (.tup (.v (.int .i64)) .unit)), (.tup (.v (.int .i64)) .unit), [], [], [], [], []⟩
noncomputable def h_laws_szChange : FnH := ⟨206, Try.f206, (.tup (.v tyChange) (.tup (.v (.int .i64)) .unit)), (.tup (.v (.int .i64)) .unit), [], [], [], [], []⟩
noncomputable def h_laws_szChangeS : FnH := ⟨169, Try.f169, (.tup (.v (.sl tyChange)) (.tup (.v (.int .i64)) .unit)), (.tup (.v (.int .i64)) .unit), [], [], [(0, ⟨[(0, (.v (.sl tyChange))), (1, (.v (.int .i64))), (5, (.v (.int .i64)))], [(.ret, [(4, (.v (.int .i64)))]), (.exit 0, [(1, (.v (.int .i64)))])], []⟩)], [], []⟩
noncomputable def h_laws_szCommand : FnH := ⟨128, Try.f128, (.tup (.v tyCommand) (.tup (.v (.int .i64)) .unit)), (.tup (.v (.int .i64)) .unit), [], [], [], [], []⟩
noncomputable def h_laws_szCommandS : FnH := ⟨68, Try.f68, (.tup (.v (.sl tyCommand)) (.tup (.v (.int .i64)) .unit)), (.tup (.v (.int .i64)) .unit), [], [], [(0, ⟨[(0, (.v (.sl tyCommand))), (1, (.v (.int .i64))), (5, (.v (.int .i64)))], [(.ret, [(4, (.v (.int .i64)))]), (.exit 0, [(1, (.v (.int .i64)))])], []⟩)], [], []⟩
noncomputable def h_laws_szProgram : FnH := ⟨14, Try.f14, (.tup (.v tyProgram) (.tup (.v (.int .i64)) .unit)), (.tup (.v (.int .i64)) .unit), [], [], [], [], []⟩
noncomputable def h_laws_szNodeSS : FnH := ⟨50, Try.f50, (.tup (.v (.sl (.sl tyNode))) (.tup (.v (.int .i64)) .unit)), (.tup (.v (.int .i64)) .unit), [], [], [(0, ⟨[(0, (.v (.sl (.sl tyNode)))), (1, (.v (.int .i64))), (5, (.v (.int .i64)))], [(.ret, [(4, (.v (.int .i64)))]), (.exit 0, [(1, (.v (.int .i64)))])], []⟩)], [], []⟩
noncomputable def h_laws_toNode : FnH := ⟨74, Try.f74, (.tup (.v tyNode) .unit), (.tup (.v tyNode) .unit), [], [], [], [], []⟩
noncomputable def h_laws_toNodeS : FnH := ⟨18, Try.f18, (.tup (.v (.sl tyNode)) .unit), (.tup (.own 206850 tyNode true) .unit), [], [], [(0, ⟨[(0, (.v (.sl tyNode))), (3, (.own 206849 tyNode true)), (4, (.v (.int .i64)))], [(.exit 0, [(1206849, (.own 206849 tyNode true))])], [3]⟩)], [], []⟩
noncomputable def h_laws_toChange : FnH := ⟨209, Try.f209, (.tup (.v tyChange) .unit), (.tup (.pair (.v (.int .i64)) (.own 206851 tyNode true)) .unit), [], [], [], [], []⟩
noncomputable def h_laws_toChangeS : FnH := ⟨175, Try.f175, (.tup (.v (.sl tyChange)) .unit), (.tup (.own 206853 tyChange true) .unit), [], [], [(0, ⟨[(0, (.v (.sl tyChange))), (3, (.own 206852 tyChange true)), (4, (.v (.int .i64)))], [(.exit 0, [(1206852, (.own 206852 tyChange true))])], [3]⟩)], [], []⟩
noncomputable def h_laws_toCommand : FnH := ⟨135, Try.f135, (.tup (.v tyCommand) .unit), (.tup (.pair (.own 206854 tyNode true) (.own 206855 tyChange true)) .unit), [], [], [], [], []⟩
noncomputable def h_laws_toCommandS : FnH := ⟨73, Try.f73, (.tup (.v (.sl tyCommand)) .unit), (.tup (.own 206857 tyCommand true) .unit), [], [], [(0, ⟨[(0, (.v (.sl tyCommand))), (3, (.own 206856 tyCommand true)), (4, (.v (.int .i64)))], [(.exit 0, [(1206856, (.own 206856 tyCommand true))])], [3]⟩)], [], []⟩
noncomputable def h_laws_toProgram : FnH := ⟨17, Try.f17, (.tup (.v tyProgram) .unit), (.tup (.pair (.v (.int .i64)) (.pair (.v (.int .i64)) (.pair (.own 206858 tyNode true) (.own 206859 tyCommand true)))) .unit), [], [], [], [], []⟩
noncomputable def h_laws_toNodeSS : FnH := ⟨52, Try.f52, (.tup (.v (.sl (.sl tyNode))) .unit), (.tup (.own 206861 (.sl tyNode) true) .unit), [], [], [(0, ⟨[(0, (.v (.sl (.sl tyNode)))), (3, (.own 206860 (.sl tyNode) true)), (4, (.v (.int .i64)))], [(.exit 0, [(1206860, (.own 206860 (.sl tyNode) true))])], [3]⟩)], [], []⟩
noncomputable def h_spec_l1In : FnH := ⟨96, Try.f96, (.tup (.v (.int .i64)) (.tup (.v (.int .i64)) (.tup (.v (.int .i64)) .unit))), (.tup (.v .bool) .unit), [], [], [], [], []⟩
noncomputable def h_spec_l1Wide : FnH := ⟨171, Try.f171, (.tup (.v (.int .i64)) .unit), (.tup (.v .bool) .unit), [], [], [], [], []⟩
noncomputable def h_spec_l2Need : FnH := ⟨172, Try.f172, (.tup (.v (.int .i64)) .unit), (.tup (.v (.int .i64)) (.tup (.v (.int .i64)) (.tup (.v (.int .i64)) .unit))), [], [], [], [], []⟩
noncomputable def h_spec_l1Cut : FnH := ⟨196, Try.f196, (.tup (.v (.int .i64)) (.tup (.v (.int .u64)) .unit)), (.tup (.v (.int .u64)) .unit), [], [], [(0, ⟨[(0, (.v (.int .i64))), (1, (.v (.int .u64))), (5, (.v (.int .u64))), (6, (.v (.int .i64)))], [(.exit 0, [(5, (.v (.int .u64)))])], []⟩)], [], []⟩
noncomputable def h_spec_GoodWord : FnH := ⟨207, Try.f207, (.tup (.v (.int .i64)) (.tup (.v (.int .u64)) .unit)), (.tup (.v .bool) .unit), [], [], [], [], []⟩
noncomputable def h_spec_l2N : FnH := ⟨173, Try.f173, (.tup (.v (.int .i64)) (.tup (.v (.int .i64)) (.tup (.v tyNode) .unit))), (.tup (.v .bool) .unit), [], [], [], [], []⟩
noncomputable def h_spec_l2Kind : FnH := ⟨130, Try.f130, (.tup (.v (.int .i64)) (.tup (.v (.int .i64)) (.tup (.v (.sl tyNode)) .unit))), (.tup (.v (.int .i64)) .unit), [], [], [(0, ⟨[(0, (.v (.int .i64))), (1, (.v (.int .i64))), (7, (.own 206862 (.int .i64) true)), (27, (.v (.sl tyNode))), (28, (.v (.int .i64))), (29, (.v (.int .i64)))], [(.ret, [(6, (.v (.int .i64)))]), (.exit 0, [(7, (.own 206865 (.int .i64) true))])], []⟩), (2, ⟨[(0, (.v (.int .i64))), (1, (.v (.int .i64))), (7, (.own 206863 (.int .i64) true)), (10, (.v (.int .i64))), (11, (.v (.int .i64))), (12, (.v (.int .i64))), (27, (.v (.sl tyNode))), (28, (.v (.int .i64))), (29, (.v (.int .i64)))], [(.ret, [(6, (.v (.int .i64)))]), (.exit 2, [(7, (.own 206864 (.int .i64) true))])], [0, 1, 12, 27, 28, 29]⟩)], [], []⟩
noncomputable def h_spec_l7Asks : FnH := ⟨70, Try.f70, (.tup (.v tyProgram) (.tup (.v (.sl tyNode)) .unit)), (.tup (.v .bool) .unit), [], [], [], [], []⟩
noncomputable def h_spec_l7Command : FnH := ⟨170, Try.f170, (.tup (.v tyProgram) (.tup (.v tyCommand) .unit)), (.tup (.v .bool) .unit), [], [], [(0, ⟨[(2, (.sp tyProgram)), (3, (.sp tyCommand)), (21, (.v (.sl tyChange))), (22, (.v (.int .i64))), (23, (.v (.int .i64)))], [(.ret, [(4, (.v .bool))]), (.exit 0, [])], []⟩)], [], []⟩
noncomputable def h_spec_GoodProgram : FnH := ⟨129, Try.f129, (.tup (.v tyProgram) .unit), (.tup (.v .bool) .unit), [], [], [(0, ⟨[(1, (.sp tyProgram)), (18, (.v (.sl tyCommand))), (19, (.v (.int .i64))), (20, (.v (.int .i64)))], [(.ret, [(2, (.v .bool))]), (.exit 0, [])], []⟩)], [], []⟩
noncomputable def h_spec_l7Small : FnH := ⟨69, Try.f69, (.tup (.v tyProgram) .unit), (.tup (.v .bool) .unit), [], [], [], [], []⟩
noncomputable def h_spec_l15Preds : FnH := ⟨112, Try.f112, (.tup (.v tyProgram) (.tup (.v (.sl (.sl tyNode))) .unit)), (.tup (.v .bool) .unit), [], [], [(0, ⟨[(2, (.sp tyProgram)), (10, (.v (.sl (.sl tyNode)))), (11, (.v (.int .i64))), (12, (.v (.int .i64)))], [(.ret, [(4, (.v .bool))]), (.exit 0, [])], []⟩)], [], []⟩
noncomputable def h_spec_l20Same : FnH := ⟨189, Try.f189, (.tup (.v (.sl tyNode)) (.tup (.v (.sl tyNode)) .unit)), (.tup (.v .bool) .unit), [], [], [(0, ⟨[(0, (.v (.sl tyNode))), (1, (.v (.sl tyNode))), (12, (.v (.int .i64))), (13, (.v (.int .i64)))], [(.ret, [(4, (.v .bool))]), (.exit 0, [])], []⟩)], [], []⟩
noncomputable def h_spec_l20Add : FnH := ⟨154, Try.f154, (.tup (.own 206867 (.sl tyNode) true) (.tup (.v (.sl tyNode)) .unit)), (.tup .any (.tup (.own 206870 (.sl tyNode) true) .unit)), [206867], [], [(0, ⟨[(0, (.own 206868 (.sl tyNode) true)), (1, (.v (.sl tyNode))), (7, (.ref 206868)), (8, (.v (.int .i64))), (9, (.v (.int .i64)))], [(.ret, [(1206868, (.own 206868 (.sl tyNode) true)), (4, (.ref 206868))]), (.exit 0, [(1206868, (.own 206868 (.sl tyNode) true))])], [0, 1]⟩)], [], []⟩
noncomputable def h_spec_GoodTerm : FnH := ⟨187, Try.f187, (.tup (.v (.int .i64)) (.tup (.v (.int .i64)) (.tup (.v (.sl tyNode)) .unit))), (.tup (.v .bool) .unit), [], [], [], [], []⟩
noncomputable def h_spec_l2Made : FnH := ⟨150, Try.f150, (.tup (.v (.int .i64)) (.tup (.v (.int .i64)) (.tup (.v (.sl tyNode)) .unit))), (.tup (.v (.sl tyNode)) (.tup (.v .bool) .unit)), [], [], [], [], []⟩
noncomputable def h_spec_PutAll : FnH := ⟨186, Try.f186, (.tup (.v (.int .i64)) (.tup (.v (.int .i64)) (.tup (.v (.sl tyNode)) (.tup (.v (.sl (.sl tyNode))) .unit)))), (.tup (.v (.sl tyNode)) (.tup (.v .bool) .unit)), [], [], [(0, ⟨[(0, (.v (.int .i64))), (1, (.v (.int .i64))), (2, (.v (.sl tyNode))), (3, (.v (.sl (.sl tyNode)))), (26, (.v (.sl (.sl tyNode)))), (27, (.v (.int .i64))), (28, (.v (.int .i64)))], [(.ret, [(8, (.nl tyNode)), (9, (.v .bool))]), (.exit 0, [])], [0, 1, 2, 3]⟩), (2, ⟨[(0, (.v (.int .i64))), (1, (.v (.int .i64))), (3, (.v (.sl (.sl tyNode)))), (12, (.own 206877 tyNode true)), (38, (.v (.sl tyNode))), (39, (.v (.int .i64))), (40, (.v (.int .i64)))], [(.exit 2, [(12, (.own 206878 tyNode true))])], [0, 1]⟩)], [], []⟩
noncomputable def h_spec_l16One : FnH := ⟨149, Try.f149, (.tup (.v tyProgram) (.tup (.v (.int .i64)) (.tup (.v (.sl tyNode)) .unit))), (.tup (.v (.sl tyNode)) (.tup (.v .bool) .unit)), [], [], [(0, ⟨[(1, (.v (.int .i64))), (2, (.v (.sl tyNode))), (3, (.sp tyProgram)), (8, (.own 206874 (.sl tyNode) true)), (9, (.v (.int .i64)))], [(.exit 0, [(8, (.own 206875 (.sl tyNode) true))])], [1, 2, 3]⟩), (2, ⟨[(2, (.v (.sl tyNode))), (3, (.sp tyProgram)), (8, (.own 206876 (.sl tyNode) false)), (30, (.v (.sl tyChange))), (31, (.v (.int .i64))), (32, (.v (.int .i64)))], [(.exit 2, [(1206876, (.own 206876 (.sl tyNode) false))])], [2, 3, 8]⟩)], [], []⟩
noncomputable def h_spec_l20Terms : FnH := ⟨113, Try.f113, (.tup (.v tyProgram) (.tup (.v (.sl (.sl tyNode))) .unit)), (.tup (.own 206881 (.sl tyNode) true) .unit), [], [], [(0, ⟨[(1, (.v (.sl (.sl tyNode)))), (2, (.sp tyProgram)), (5, (.own 206866 (.sl tyNode) true)), (14, (.v (.sl tyCommand))), (15, (.v (.int .i64))), (16, (.v (.int .i64)))], [(.exit 0, [(5, (.own 206871 (.sl tyNode) true))])], [1, 2]⟩), (2, ⟨[(2, (.sp tyProgram)), (5, (.own 206872 (.sl tyNode) true)), (25, (.v (.sl (.sl tyNode)))), (26, (.v (.int .i64))), (27, (.v (.int .i64)))], [(.exit 2, [(5, (.own 206880 (.sl tyNode) true))])], []⟩), (4, ⟨[(2, (.sp tyProgram)), (5, (.own 206873 (.sl tyNode) true)), (9, (.v (.sl tyNode))), (25, (.v (.sl (.sl tyNode)))), (26, (.v (.int .i64))), (27, (.v (.int .i64))), (33, (.v (.int .i64))), (34, (.v (.int .i64)))], [(.exit 4, [(5, (.own 206879 (.sl tyNode) true))])], [2, 25, 26, 27]⟩)], [], []⟩
noncomputable def h_spec_TryTerms : FnH := ⟨51, Try.f51, (.tup (.v tyProgram) (.tup (.v (.sl (.sl tyNode))) .unit)), (.tup (.own 206882 (.sl tyNode) true) (.tup (.v .bool) .unit)), [], [], [], [], []⟩
noncomputable def h_impl_isWide : FnH := ⟨177, Try.f177, (.tup (.v (.int .i64)) .unit), (.tup (.v .bool) .unit), [], [], [], [], []⟩
noncomputable def h_impl_isVars : FnH := ⟨178, Try.f178, (.tup (.v (.int .i64)) .unit), (.tup (.v .bool) .unit), [], [], [], [], []⟩
noncomputable def h_impl_operandsOf : FnH := ⟨212, Try.f212, (.tup (.v (.int .i64)) .unit), (.tup (.v (.int .i64)) (.tup (.v (.int .i64)) (.tup (.v (.int .i64)) .unit))), [], [], [], [], []⟩
noncomputable def h_impl_mask : FnH := ⟨143, Try.f143, (.tup (.v (.int .i64)) .unit), (.tup (.v (.int .u64)) .unit), [], [], [], [], []⟩
noncomputable def h_impl_GoodWord : FnH := ⟨226, Try.f226, (.tup (.v (.int .i64)) (.tup (.v (.int .u64)) .unit)), (.tup (.v .bool) .unit), [], [], [], [], []⟩
noncomputable def h_impl_isLeafRight : FnH := ⟨213, Try.f213, (.tup (.v (.int .i64)) (.tup (.v (.int .i64)) (.tup (.v tyNode) .unit))), (.tup (.v .bool) .unit), [], [], [], [], []⟩
noncomputable def h_impl_GoodTerm_1 : FnH := ⟨214, Try.f214, (.tup (.v (.int .i64)) (.tup (.sp (.int .i64)) .unit)), (.tup (.v .bool) .unit), [], [], [], [], []⟩
noncomputable def h_slices_IndexFunc_int_by_GoodTerm_1 : FnH := ⟨141, Try.f141, (.tup (.v (.sl (.int .i64))) (.tup (.v (.fn 214 (.pair (.int .i64) .nil))) .unit)), (.tup (.v (.int .i64)) .unit), [], [], [(0, ⟨[(0, (.v (.sl (.int .i64)))), (1, (.v (.fn 214 (.pair (.int .i64) .nil)))), (7, (.v (.int .i64))), (8, (.v (.int .i64)))], [(.ret, [(4, (.v (.int .i64)))]), (.exit 0, [])], []⟩)], [], []⟩
noncomputable def h_slices_ContainsFunc_int_by_GoodTerm_1 : FnH := ⟨88, Try.f88, (.tup (.v (.sl (.int .i64))) (.tup (.v (.fn 214 (.pair (.int .i64) .nil))) .unit)), (.tup (.v .bool) .unit), [], [], [], [], []⟩
noncomputable def h_impl_GoodTerm : FnH := ⟨182, Try.f182, (.tup (.v (.int .i64)) (.tup (.v (.int .i64)) (.tup (.v (.sl tyNode)) .unit))), (.tup (.v .bool) .unit), [], [], [(0, ⟨[(0, (.v (.int .i64))), (1, (.v (.int .i64))), (7, (.own 206883 (.int .i64) true)), (33, (.v (.sl tyNode))), (34, (.v (.int .i64))), (35, (.v (.int .i64)))], [(.ret, [(6, (.v .bool))]), (.exit 0, [(7, (.own 206884 (.int .i64) true))])], []⟩)], [], []⟩
noncomputable def h_impl_kindOf : FnH := ⟨183, Try.f183, (.tup (.v (.sl tyNode)) .unit), (.tup (.v (.int .i64)) .unit), [], [], [], [], []⟩
noncomputable def h_impl_isTermOf : FnH := ⟨140, Try.f140, (.tup (.v (.int .i64)) (.tup (.v (.int .i64)) (.tup (.v (.sl tyNode)) (.tup (.v (.int .i64)) .unit)))), (.tup (.v .bool) .unit), [], [], [], [], []⟩
noncomputable def h_impl_Program_isCondition : FnH := ⟨87, Try.f87, (.tup (.v tyProgram) (.tup (.v (.sl tyNode)) .unit)), (.tup (.v .bool) .unit), [], [], [], [], []⟩
noncomputable def h_impl_Program_isCommand : FnH := ⟨181, Try.f181, (.tup (.v tyProgram) (.tup (.v tyCommand) .unit)), (.tup (.v .bool) .unit), [], [], [(0, ⟨[(2, (.sp tyProgram)), (3, (.sp tyCommand)), (13, (.v (.sl tyChange))), (14, (.v (.int .i64))), (15, (.v (.int .i64)))], [(.ret, [(4, (.v .bool))]), (.exit 0, [])], []⟩)], [], []⟩
noncomputable def h_impl_GoodProgram_1 : FnH := ⟨180, Try.f180, (.tup (.v tyCommand) (.tup (.sp tyProgram) .unit)), (.tup (.v .bool) .unit), [], [], [], [], []⟩
noncomputable def h_slices_IndexFunc_Command_by_GoodProgram_1 : FnH := ⟨211, Try.f211, (.tup (.v (.sl tyCommand)) (.tup (.v (.fn 180 (.pair tyProgram .nil))) .unit)), (.tup (.v (.int .i64)) .unit), [], [], [(0, ⟨[(0, (.v (.sl tyCommand))), (1, (.v (.fn 180 (.pair tyProgram .nil)))), (7, (.v (.int .i64))), (8, (.v (.int .i64)))], [(.ret, [(4, (.v (.int .i64)))]), (.exit 0, [])], []⟩)], [], []⟩
noncomputable def h_slices_ContainsFunc_Command_by_GoodProgram_1 : FnH := ⟨179, Try.f179, (.tup (.v (.sl tyCommand)) (.tup (.v (.fn 180 (.pair tyProgram .nil))) .unit)), (.tup (.v .bool) .unit), [], [], [], [], []⟩
noncomputable def h_impl_GoodProgram : FnH := ⟨139, Try.f139, (.tup (.v tyProgram) .unit), (.tup (.v .bool) .unit), [], [], [], [], []⟩
noncomputable def h_impl_isSmall : FnH := ⟨84, Try.f84, (.tup (.v tyProgram) .unit), (.tup (.v .bool) .unit), [], [], [], [], []⟩
noncomputable def h_impl_Program_arePreds_1 : FnH := ⟨156, Try.f156, (.tup (.v (.sl tyNode)) (.tup (.sp tyProgram) .unit)), (.tup (.v .bool) .unit), [], [], [], [], []⟩
noncomputable def h_slices_IndexFunc_Node_by_Program_arePreds_1 : FnH := ⟨190, Try.f190, (.tup (.v (.sl (.sl tyNode))) (.tup (.v (.fn 156 (.pair tyProgram .nil))) .unit)), (.tup (.v (.int .i64)) .unit), [], [], [(0, ⟨[(0, (.v (.sl (.sl tyNode)))), (1, (.v (.fn 156 (.pair tyProgram .nil)))), (7, (.v (.int .i64))), (8, (.v (.int .i64)))], [(.ret, [(4, (.v (.int .i64)))]), (.exit 0, [])], []⟩)], [], []⟩
noncomputable def h_slices_ContainsFunc_Node_by_Program_arePreds_1 : FnH := ⟨155, Try.f155, (.tup (.v (.sl (.sl tyNode))) (.tup (.v (.fn 156 (.pair tyProgram .nil))) .unit)), (.tup (.v .bool) .unit), [], [], [], [], []⟩
noncomputable def h_impl_Program_arePreds : FnH := ⟨114, Try.f114, (.tup (.v tyProgram) (.tup (.v (.sl (.sl tyNode))) (.tup (.v (.int .i64)) .unit))), (.tup (.v .bool) .unit), [], [], [], [], []⟩
noncomputable def h_slices_Equal_Node : FnH := ⟨159, Try.f159, (.tup (.v (.sl tyNode)) (.tup (.v (.sl tyNode)) .unit)), (.tup (.v .bool) .unit), [], [], [(0, ⟨[(0, (.v (.sl tyNode))), (1, (.v (.sl tyNode))), (12, (.v (.int .i64))), (13, (.v (.int .i64)))], [(.ret, [(4, (.v .bool))]), (.exit 0, [])], []⟩)], [], []⟩
noncomputable def h_impl_tryTerms_1_1 : FnH := ⟨158, Try.f158, (.tup (.v (.sl tyNode)) (.tup (.sp (.sl tyNode)) .unit)), (.tup (.v .bool) .unit), [], [], [], [], []⟩
noncomputable def h_slices_IndexFunc_Node_by_tryTerms_1_1 : FnH := ⟨190, Try.f190, (.tup (.v (.sl (.sl tyNode))) (.tup (.v (.fn 158 (.pair (.sl tyNode) .nil))) .unit)), (.tup (.v (.int .i64)) .unit), [], [], [(0, ⟨[(0, (.v (.sl (.sl tyNode)))), (1, (.v (.fn 158 (.pair (.sl tyNode) .nil)))), (7, (.v (.int .i64))), (8, (.v (.int .i64)))], [(.ret, [(4, (.v (.int .i64)))]), (.exit 0, [])], []⟩)], [], []⟩
noncomputable def h_slices_ContainsFunc_Node_by_tryTerms_1_1 : FnH := ⟨155, Try.f155, (.tup (.v (.sl (.sl tyNode))) (.tup (.v (.fn 158 (.pair (.sl tyNode) .nil))) .unit)), (.tup (.v .bool) .unit), [], [(7, 10063)], [], [], []⟩
noncomputable def h_slices_Clone_Node : FnH := ⟨109, Try.f109, (.tup (.v (.sl tyNode)) .unit), (.tup (.own 206885 tyNode true) .unit), [], [], [], [], []⟩
noncomputable def h_impl_tryTerms_1 : FnH := ⟨157, Try.f157, (.tup (.v (.sl tyNode)) (.tup (.box 206886 (.own 206887 (.sl tyNode) true)) .unit)), (.tup (.box 206886 (.own 206888 (.sl tyNode) true)) .unit), [206886], [(9, 10062)], [], [], []⟩
noncomputable def h_impl_PutAll_1 : FnH := ⟨219, Try.f219, (.tup (.v (.sl tyNode)) (.tup (.sp (.int .i64)) (.tup (.sp (.int .i64)) .unit))), (.tup (.v .bool) .unit), [], [], [], [], []⟩
noncomputable def h_slices_IndexFunc_Node_by_PutAll_1 : FnH := ⟨190, Try.f190, (.tup (.v (.sl (.sl tyNode))) (.tup (.v (.fn 219 (.pair (.int .i64) (.pair (.int .i64) .nil)))) .unit)), (.tup (.v (.int .i64)) .unit), [], [], [(0, ⟨[(0, (.v (.sl (.sl tyNode)))), (1, (.v (.fn 219 (.pair (.int .i64) (.pair (.int .i64) .nil))))), (7, (.v (.int .i64))), (8, (.v (.int .i64)))], [(.ret, [(4, (.v (.int .i64)))]), (.exit 0, [])], []⟩)], [], []⟩
noncomputable def h_slices_ContainsFunc_Node_by_PutAll_1 : FnH := ⟨155, Try.f155, (.tup (.v (.sl (.sl tyNode))) (.tup (.v (.fn 219 (.pair (.int .i64) (.pair (.int .i64) .nil)))) .unit)), (.tup (.v .bool) .unit), [], [(7, 10070)], [], [], []⟩
noncomputable def h_impl_checkedTerm : FnH := ⟨153, Try.f153, (.tup (.v (.int .i64)) (.tup (.v (.int .i64)) (.tup (.v (.sl tyNode)) .unit))), (.tup (.v (.sl tyNode)) (.tup (.v .bool) .unit)), [], [], [], [], []⟩
noncomputable def h_impl_PutAll : FnH := ⟨188, Try.f188, (.tup (.v (.int .i64)) (.tup (.v (.int .i64)) (.tup (.v (.sl tyNode)) (.tup (.v (.sl (.sl tyNode))) .unit)))), (.tup (.v (.sl tyNode)) (.tup (.v .bool) .unit)), [], [(27, 10069)], [(0, ⟨[(3, (.v (.sl (.sl tyNode)))), (4, (.sp (.int .i64))), (5, (.sp (.int .i64))), (10, (.own 206895 tyNode true)), (30, (.v (.sl tyNode))), (31, (.v (.int .i64))), (32, (.v (.int .i64)))], [(.exit 0, [(10, (.own 206896 tyNode true))])], [4, 5]⟩)], [], []⟩
noncomputable def h_impl_Program_beforeOne : FnH := ⟨152, Try.f152, (.tup (.v tyProgram) (.tup (.v (.int .i64)) (.tup (.v (.sl tyNode)) .unit))), (.tup (.v (.sl tyNode)) (.tup (.v .bool) .unit)), [], [], [(0, ⟨[(1, (.v (.int .i64))), (2, (.v (.sl tyNode))), (3, (.sp tyProgram)), (8, (.own 206892 (.sl tyNode) true)), (14, (.v (.int .i64))), (15, (.v (.int .i64)))], [(.exit 0, [(8, (.own 206893 (.sl tyNode) true))])], [1, 2, 3]⟩), (2, ⟨[(2, (.v (.sl tyNode))), (3, (.sp tyProgram)), (8, (.own 206894 (.sl tyNode) false)), (31, (.v (.sl tyChange))), (32, (.v (.int .i64))), (33, (.v (.int .i64)))], [(.exit 2, [(1206894, (.own 206894 (.sl tyNode) false))])], [2, 3, 8]⟩)], [], []⟩
noncomputable def h_impl_tryTerms : FnH := ⟨115, Try.f115, (.tup (.v tyProgram) (.tup (.v (.sl (.sl tyNode))) .unit)), (.tup (.own 206903 (.sl tyNode) true) .unit), [], [], [(0, ⟨[(1, (.v (.sl (.sl tyNode)))), (2, (.sp tyProgram)), (5, (.box 206889 (.own 206890 (.sl tyNode) true))), (6, (.clo 157 (.tup (.ptr 206889) .unit))), (17, (.v (.sl tyCommand))), (18, (.v (.int .i64))), (19, (.v (.int .i64)))], [(.exit 0, [(2206889, (.box 206889 (.own 206891 (.sl tyNode) true)))])], [1, 2, 5, 6]⟩), (2, ⟨[(2, (.sp tyProgram)), (5, (.box 206898 (.own 206900 (.sl tyNode) true))), (6, (.clo 157 (.tup (.ptr 206898) .unit))), (28, (.v (.sl (.sl tyNode)))), (29, (.v (.int .i64))), (30, (.v (.int .i64)))], [(.exit 2, [(2206898, (.box 206898 (.own 206902 (.sl tyNode) true)))])], [5]⟩), (4, ⟨[(2, (.sp tyProgram)), (5, (.box 206897 (.own 206899 (.sl tyNode) true))), (6, (.clo 157 (.tup (.ptr 206897) .unit))), (10, (.v (.sl tyNode))), (28, (.v (.sl (.sl tyNode)))), (29, (.v (.int .i64))), (30, (.v (.int .i64))), (36, (.v (.int .i64))), (37, (.v (.int .i64)))], [(.exit 4, [(2206897, (.box 206897 (.own 206901 (.sl tyNode) true)))])], [2, 5, 6, 28, 29, 30]⟩)], [], []⟩
noncomputable def h_impl_TryTerms : FnH := ⟨53, Try.f53, (.tup (.v tyProgram) (.tup (.v (.sl (.sl tyNode))) .unit)), (.tup (.own 206904 (.sl tyNode) true) (.tup (.v .bool) .unit)), [], [], [], [], []⟩
noncomputable def h_laws_eqNode : FnH := ⟨79, Try.f79, (.tup (.v tyNode) (.tup (.v tyNode) .unit)), (.tup (.v .bool) .unit), [], [], [], [], []⟩
noncomputable def h_laws_eqNodeS : FnH := ⟨21, Try.f21, (.tup (.v (.sl tyNode)) (.tup (.v (.sl tyNode)) .unit)), (.tup (.v .bool) .unit), [], [], [(0, ⟨[(0, (.v (.sl tyNode))), (1, (.v (.sl tyNode))), (5, (.v (.int .i64)))], [(.ret, [(4, (.v .bool))]), (.exit 0, [])], []⟩)], [], []⟩
noncomputable def h_laws_eqNodeSS : FnH := ⟨54, Try.f54, (.tup (.v (.sl (.sl tyNode))) (.tup (.v (.sl (.sl tyNode))) .unit)), (.tup (.v .bool) .unit), [], [], [(0, ⟨[(0, (.v (.sl (.sl tyNode)))), (1, (.v (.sl (.sl tyNode)))), (5, (.v (.int .i64)))], [(.ret, [(4, (.v .bool))]), (.exit 0, [])], []⟩)], [], []⟩
noncomputable def h_laws_eqChange : FnH := ⟨210, Try.f210, (.tup (.v tyChange) (.tup (.v tyChange) .unit)), (.tup (.v .bool) .unit), [], [], [], [], []⟩
noncomputable def h_laws_eqChangeS : FnH := ⟨176, Try.f176, (.tup (.v (.sl tyChange)) (.tup (.v (.sl tyChange)) .unit)), (.tup (.v .bool) .unit), [], [], [(0, ⟨[(0, (.v (.sl tyChange))), (1, (.v (.sl tyChange))), (5, (.v (.int .i64)))], [(.ret, [(4, (.v .bool))]), (.exit 0, [])], []⟩)], [], []⟩
noncomputable def h_laws_eqCommand : FnH := ⟨137, Try.f137, (.tup (.v tyCommand) (.tup (.v tyCommand) .unit)), (.tup (.v .bool) .unit), [], [], [], [], []⟩
noncomputable def h_laws_eqCommandS : FnH := ⟨78, Try.f78, (.tup (.v (.sl tyCommand)) (.tup (.v (.sl tyCommand)) .unit)), (.tup (.v .bool) .unit), [], [], [(0, ⟨[(0, (.v (.sl tyCommand))), (1, (.v (.sl tyCommand))), (5, (.v (.int .i64)))], [(.ret, [(4, (.v .bool))]), (.exit 0, [])], []⟩)], [], []⟩
noncomputable def h_laws_eqProgram : FnH := ⟨20, Try.f20, (.tup (.v tyProgram) (.tup (.v tyProgram) .unit)), (.tup (.v .bool) .unit), [], [], [], [], []⟩
noncomputable def h_laws_markNodeS : FnH := ⟨48, Try.f48, (.tup (.own 206906 tyNode true) (.tup (.v (.int .i64)) .unit)), (.tup (.own 206906 tyNode true) (.tup (.v (.int .i64)) .unit)), [206906], [], [(0, ⟨[(0, (.own 206905 tyNode true)), (1, (.v (.int .i64))), (5, (.v (.int .i64)))], [(.exit 0, [(1206905, (.own 206905 tyNode true)), (1, (.v (.int .i64)))])], []⟩)], [], []⟩
noncomputable def h_laws_markChangeS : FnH := ⟨148, Try.f148, (.tup (.own 206911 tyChange true) (.tup (.v (.int .i64)) .unit)), (.tup (.own 206911 tyChange true) (.tup (.v (.int .i64)) .unit)), [206911], [], [(0, ⟨[(0, (.own 206910 tyChange true)), (1, (.v (.int .i64))), (5, (.v (.int .i64)))], [(.exit 0, [(1206910, (.own 206910 tyChange true)), (1, (.v (.int .i64)))])], []⟩)], [], []⟩
noncomputable def h_laws_markCommandS : FnH := ⟨103, Try.f103, (.tup (.own 206909 tyCommand true) (.tup (.v (.int .i64)) .unit)), (.tup (.own 206909 tyCommand true) (.tup (.v (.int .i64)) .unit)), [206909], [], [(0, ⟨[(0, (.own 206908 tyCommand true)), (1, (.v (.int .i64))), (5, (.v (.int .i64)))], [(.exit 0, [(1206908, (.own 206908 tyCommand true)), (1, (.v (.int .i64)))])], []⟩)], [], []⟩
noncomputable def h_laws_markProgram : FnH := ⟨42, Try.f42, (.tup (.pair (.v (.int .i64)) (.pair (.v (.int .i64)) (.pair (.own 206907 tyNode true) (.own 206912 tyCommand true)))) (.tup (.v (.int .i64)) .unit)), (.tup (.own 206907 tyNode true) (.tup (.own 206912 tyCommand true) (.tup (.v (.int .i64)) .unit))), [206907, 206912], [], [], [], []⟩
noncomputable def h_laws_markNodeSS : FnH := ⟨55, Try.f55, (.tup (.own 206914 (.sl tyNode) true) (.tup (.v (.int .i64)) .unit)), (.tup (.own 206914 (.sl tyNode) true) (.tup (.v (.int .i64)) .unit)), [206914], [], [(0, ⟨[(0, (.own 206913 (.sl tyNode) true)), (1, (.v (.int .i64))), (5, (.v (.int .i64)))], [(.exit 0, [(1206913, (.own 206913 (.sl tyNode) true)), (1, (.v (.int .i64)))])], []⟩)], [], []⟩
noncomputable def h_laws_heldNodeS : FnH := ⟨49, Try.f49, (.tup (.v (.sl tyNode)) (.tup (.v (.int .i64)) .unit)), (.tup (.v (.int .i64)) .unit), [], [], [(0, ⟨[(0, (.v (.sl tyNode))), (1, (.v (.int .i64))), (5, (.v (.int .i64)))], [(.ret, [(4, (.v (.int .i64)))]), (.exit 0, [(1, (.v (.int .i64)))])], []⟩)], [], []⟩
noncomputable def h_laws_heldNodeSS : FnH := ⟨56, Try.f56, (.tup (.v (.sl (.sl tyNode))) (.tup (.v (.int .i64)) .unit)), (.tup (.v (.int .i64)) .unit), [], [], [(0, ⟨[(0, (.v (.sl (.sl tyNode)))), (1, (.v (.int .i64))), (5, (.v (.int .i64)))], [(.ret, [(4, (.v (.int .i64)))]), (.exit 0, [(1, (.v (.int .i64)))])], []⟩)], [], []⟩
noncomputable def h_laws_FnExactTryTerms : FnH := ⟨10, Try.f10, (.tup (.v tyProgram) (.tup (.v (.sl (.sl tyNode))) .unit)), (.tup (.v .bool) .unit), [], [], [], [], []⟩
def extsL : List (Nat × ExtF) := []
def tysL : List (Nat × Ty) := [(3, (.int .i64)), (4, .bool), (22, (.sl tyNode)), (23, (.sl tyCommand)), (25, tyProgram), (30, (.sl tyNode)), (31, (.sl tyCommand)), (33, tyProgram), (39, (.sl (.int .i64))), (71, (.sl (.sl tyNode))), (73, (.sl (.sl tyNode))), (99, (.int .u64)), (101, tyNode), (103, tyNode), (148, (.sl tyChange)), (150, tyCommand), (155, (.sl tyChange)), (157, tyCommand), (178, tyChange), (186, (.int .u64)), (211, tyChange)]
def nfsL : List (Nat × Nat) := [(25, 4), (33, 4), (101, 2), (103, 2), (150, 2), (157, 2), (178, 2), (211, 2)]
def cellsL : List Nat := []
noncomputable def keysL : List (Nat × FnH) := [(15, h_laws_szNodeS), (206, h_laws_szChange), (169, h_laws_szChangeS), (128, h_laws_szCommand), (68, h_laws_szCommandS), (14, h_laws_szProgram), (50, h_laws_szNodeSS), (74, h_laws_toNode), (18, h_laws_toNodeS), (209, h_laws_toChange), (175, h_laws_toChangeS), (135, h_laws_toCommand), (73, h_laws_toCommandS), (17, h_laws_toProgram), (52, h_laws_toNodeSS), (96, h_spec_l1In), (171, h_spec_l1Wide), (172, h_spec_l2Need), (196, h_spec_l1Cut), (207, h_spec_GoodWord), (173, h_spec_l2N), (130, h_spec_l2Kind), (70, h_spec_l7Asks), (170, h_spec_l7Command), (129, h_spec_GoodProgram), (69, h_spec_l7Small), (112, h_spec_l15Preds), (189, h_spec_l20Same), (154, h_spec_l20Add), (187, h_spec_GoodTerm), (150, h_spec_l2Made), (186, h_spec_PutAll), (149, h_spec_l16One), (113, h_spec_l20Terms), (51, h_spec_TryTerms), (177, h_impl_isWide), (178, h_impl_isVars), (212, h_impl_operandsOf), (143, h_impl_mask), (226, h_impl_GoodWord), (213, h_impl_isLeafRight), (214, h_impl_GoodTerm_1), (141, h_slices_IndexFunc_int_by_GoodTerm_1), (88, h_slices_ContainsFunc_int_by_GoodTerm_1), (182, h_impl_GoodTerm), (183, h_impl_kindOf), (140, h_impl_isTermOf), (87, h_impl_Program_isCondition), (181, h_impl_Program_isCommand), (180, h_impl_GoodProgram_1), (211, h_slices_IndexFunc_Command_by_GoodProgram_1), (179, h_slices_ContainsFunc_Command_by_GoodProgram_1), (139, h_impl_GoodProgram), (84, h_impl_isSmall), (156, h_impl_Program_arePreds_1), (190, h_slices_IndexFunc_Node_by_Program_arePreds_1), (155, h_slices_ContainsFunc_Node_by_Program_arePreds_1), (114, h_impl_Program_arePreds), (159, h_slices_Equal_Node), (158, h_impl_tryTerms_1_1), (10063, h_slices_IndexFunc_Node_by_tryTerms_1_1), (10062, h_slices_ContainsFunc_Node_by_tryTerms_1_1), (109, h_slices_Clone_Node), (157, h_impl_tryTerms_1), (219, h_impl_PutAll_1), (10070, h_slices_IndexFunc_Node_by_PutAll_1), (10069, h_slices_ContainsFunc_Node_by_PutAll_1), (153, h_impl_checkedTerm), (188, h_impl_PutAll), (152, h_impl_Program_beforeOne), (115, h_impl_tryTerms), (53, h_impl_TryTerms), (79, h_laws_eqNode), (21, h_laws_eqNodeS), (54, h_laws_eqNodeSS), (210, h_laws_eqChange), (176, h_laws_eqChangeS), (137, h_laws_eqCommand), (78, h_laws_eqCommandS), (20, h_laws_eqProgram), (48, h_laws_markNodeS), (148, h_laws_markChangeS), (103, h_laws_markCommandS), (42, h_laws_markProgram), (55, h_laws_markNodeSS), (49, h_laws_heldNodeS), (56, h_laws_heldNodeSS), (10, h_laws_FnExactTryTerms)]
noncomputable def H : Hints := { extF := fun f => lookupN extsL f, ty := fun T => lookupN tysL T, nf := fun T => match lookupN nfsL T with | some n => n | none => 0, cell := fun T => hasN cellsL T, key := fun k => lookupN keysL k }
noncomputable def laws_szNodeS (a : Bool × List DNode) (left_ : Int) : Option Int := (inf H).call 15 (a, left_)
noncomputable def laws_szChange (a : DChange) (left_ : Int) : Option Int := (inf H).call 206 (a, left_)
noncomputable def laws_szChangeS (a : Bool × List DChange) (left_ : Int) : Option Int := (inf H).call 169 (a, left_)
theorem key_laws_szChangeS : H.key 169 = some h_laws_szChangeS := by kernel_rfl
noncomputable def laws_szChangeS_L0 (a : Bool × List DChange) (left_ : Int) (i : Int) : Option (Int ⊕ Int) := (inf H).loop 169 0 (loopCode Try.f169 0) (a, (left_, i))
noncomputable def laws_szCommand (a : DCommand) (left_ : Int) : Option Int := (inf H).call 128 (a, left_)
noncomputable def laws_szCommandS (a : Bool × List DCommand) (left_ : Int) : Option Int := (inf H).call 68 (a, left_)
theorem key_laws_szCommandS : H.key 68 = some h_laws_szCommandS := by kernel_rfl
noncomputable def laws_szCommandS_L0 (a : Bool × List DCommand) (left_ : Int) (i : Int) : Option (Int ⊕ Int) := (inf H).loop 68 0 (loopCode Try.f68 0) (a, (left_, i))
noncomputable def laws_szProgram (a : DProgram) (left_ : Int) : Option Int := (inf H).call 14 (a, left_)
noncomputable def laws_szNodeSS (a : Bool × List (Bool × List DNode)) (left_ : Int) : Option Int := (inf H).call 50 (a, left_)
theorem key_laws_szNodeSS : H.key 50 = some h_laws_szNodeSS := by kernel_rfl
noncomputable def laws_szNodeSS_L0 (a : Bool × List (Bool × List DNode)) (left_ : Int) (i : Int) : Option (Int ⊕ Int) := (inf H).loop 50 0 (loopCode Try.f50 0) (a, (left_, i))
noncomputable def laws_toNode (a : DNode) : Option DNode := (inf H).call 74 a
noncomputable def laws_toNodeS (a : Bool × List DNode) : Option (Bool × List DNode) := (inf H).call 18 a
theorem key_laws_toNodeS : H.key 18 = some h_laws_toNodeS := by kernel_rfl
noncomputable def laws_toNodeS_L0 (a : Bool × List DNode) (out : Bool × List DNode) (i : Int) : Option (Bool × List DNode) := (inf H).loop 18 0 (loopCode Try.f18 0) (a, (out, i))
noncomputable def laws_toChange (a : DChange) : Option DChange := (inf H).call 209 a
noncomputable def laws_toChangeS (a : Bool × List DChange) : Option (Bool × List DChange) := (inf H).call 175 a
theorem key_laws_toChangeS : H.key 175 = some h_laws_toChangeS := by kernel_rfl
noncomputable def laws_toChangeS_L0 (a : Bool × List DChange) (out : Bool × List DChange) (i : Int) : Option (Bool × List DChange) := (inf H).loop 175 0 (loopCode Try.f175 0) (a, (out, i))
noncomputable def laws_toCommand (a : DCommand) : Option DCommand := (inf H).call 135 a
noncomputable def laws_toCommandS (a : Bool × List DCommand) : Option (Bool × List DCommand) := (inf H).call 73 a
theorem key_laws_toCommandS : H.key 73 = some h_laws_toCommandS := by kernel_rfl
noncomputable def laws_toCommandS_L0 (a : Bool × List DCommand) (out : Bool × List DCommand) (i : Int) : Option (Bool × List DCommand) := (inf H).loop 73 0 (loopCode Try.f73 0) (a, (out, i))
noncomputable def laws_toProgram (a : DProgram) : Option DProgram := (inf H).call 17 a
noncomputable def laws_toNodeSS (a : Bool × List (Bool × List DNode)) : Option (Bool × List (Bool × List DNode)) := (inf H).call 52 a
theorem key_laws_toNodeSS : H.key 52 = some h_laws_toNodeSS := by kernel_rfl
noncomputable def laws_toNodeSS_L0 (a : Bool × List (Bool × List DNode)) (out : Bool × List (Bool × List DNode)) (i : Int) : Option (Bool × List (Bool × List DNode)) := (inf H).loop 52 0 (loopCode Try.f52 0) (a, (out, i))
noncomputable def spec_l1In (n : Int) (lo : Int) (hi : Int) : Option Bool := (inf H).call 96 (n, (lo, hi))
noncomputable def spec_l1Wide (wide : Int) : Option Bool := (inf H).call 171 wide
noncomputable def spec_l2Need (op : Int) : Option (Int × Int × Int) := (inf H).call 172 op
noncomputable def spec_l1Cut (wide : Int) (a : Int) : Option Int := (inf H).call 196 (wide, a)
theorem key_spec_l1Cut : H.key 196 = some h_spec_l1Cut := by kernel_rfl
noncomputable def spec_l1Cut_L0 (wide : Int) (a : Int) (out : Int) (k_ : Int) : Option Int := (inf H).loop 196 0 (loopCode Try.f196 0) (wide, (a, (out, k_)))
noncomputable def spec_GoodWord (wide : Int) (a : Int) : Option Bool := (inf H).call 207 (wide, a)
noncomputable def spec_l2N (wide : Int) (vars : Int) (n : DNode) : Option Bool := (inf H).call 173 (wide, (vars, n))
noncomputable def spec_l2Kind (wide : Int) (vars : Int) (t : Bool × List DNode) : Option Int := (inf H).call 130 (wide, (vars, t))
theorem key_spec_l2Kind : H.key 130 = some h_spec_l2Kind := by kernel_rfl
noncomputable def spec_l2Kind_L0 (wide : Int) (vars : Int) (pile : Bool × List Int) (t27 : Bool × List DNode) (t28 : Int) (t29 : Int) : Option (Int ⊕ (Bool × List Int)) := (inf H).loop 130 0 (loopCode Try.f130 0) (wide, (vars, (pile, (t27, (t28, t29)))))
noncomputable def spec_l2Kind_L2 (wide : Int) (vars : Int) (pile : Bool × List Int) (many : Int) (part : Int) (own : Int) (t27 : Bool × List DNode) (t28 : Int) (t29 : Int) : Option (Int ⊕ (Bool × List Int)) := (inf H).loop 130 2 (loopCode Try.f130 2) (wide, (vars, (pile, (many, (part, (own, (t27, (t28, t29))))))))
noncomputable def spec_l7Asks (p : DProgram) (t : Bool × List DNode) : Option Bool := (inf H).call 70 (p, t)
noncomputable def spec_l7Command (p : DProgram) (c : DCommand) : Option Bool := (inf H).call 170 (p, c)
theorem key_spec_l7Command : H.key 170 = some h_spec_l7Command := by kernel_rfl
noncomputable def spec_l7Command_L0 (p : DProgram) (c : DCommand) (t21 : Bool × List DChange) (t22 : Int) (t23 : Int) : Option (Bool ⊕ Unit) := (inf H).loop 170 0 (loopCode Try.f170 0) (p, (c, (t21, (t22, t23))))
noncomputable def spec_GoodProgram (p : DProgram) : Option Bool := (inf H).call 129 p
theorem key_spec_GoodProgram : H.key 129 = some h_spec_GoodProgram := by kernel_rfl
noncomputable def spec_GoodProgram_L0 (p : DProgram) (t18 : Bool × List DCommand) (t19 : Int) (t20 : Int) : Option (Bool ⊕ Unit) := (inf H).loop 129 0 (loopCode Try.f129 0) (p, (t18, (t19, t20)))
noncomputable def spec_l7Small (p : DProgram) : Option Bool := (inf H).call 69 p
noncomputable def spec_l15Preds (p : DProgram) (preds : Bool × List (Bool × List DNode)) : Option Bool := (inf H).call 112 (p, preds)
theorem key_spec_l15Preds : H.key 112 = some h_spec_l15Preds := by kernel_rfl
noncomputable def spec_l15Preds_L0 (p : DProgram) (t10 : Bool × List (Bool × List DNode)) (t11 : Int) (t12 : Int) : Option (Bool ⊕ Unit) := (inf H).loop 112 0 (loopCode Try.f112 0) (p, (t10, (t11, t12)))
noncomputable def spec_l20Same (a : Bool × List DNode) (b : Bool × List DNode) : Option Bool := (inf H).call 189 (a, b)
theorem key_spec_l20Same : H.key 189 = some h_spec_l20Same := by kernel_rfl
noncomputable def spec_l20Same_L0 (a : Bool × List DNode) (b : Bool × List DNode) (t12 : Int) (t13 : Int) : Option (Bool ⊕ Unit) := (inf H).loop 189 0 (loopCode Try.f189 0) (a, (b, (t12, t13)))
noncomputable def spec_l20Add (l : Bool × List (Bool × List DNode)) (t : Bool × List DNode) : Option (Bool × List (Bool × List DNode)) := (inf H).call 154 (l, t)
theorem key_spec_l20Add : H.key 154 = some h_spec_l20Add := by kernel_rfl
noncomputable def spec_l20Add_L0 (l : Bool × List (Bool × List DNode)) (t : Bool × List DNode) (t8 : Int) (t9 : Int) : Option ((Bool × List (Bool × List DNode)) ⊕ (Bool × List (Bool × List DNode))) := (inf H).loop 154 0 (loopCode Try.f154 0) (l, (t, (t8, t9)))
noncomputable def spec_GoodTerm (wide : Int) (vars : Int) (t : Bool × List DNode) : Option Bool := (inf H).call 187 (wide, (vars, t))
noncomputable def spec_l2Made (wide : Int) (vars : Int) (t : Bool × List DNode) : Option ((Bool × List DNode) × Bool) := (inf H).call 150 (wide, (vars, t))
noncomputable def spec_PutAll (wide : Int) (vars : Int) (t : Bool × List DNode) (by_ : Bool × List (Bool × List DNode)) : Option ((Bool × List DNode) × Bool) := (inf H).call 186 (wide, (vars, (t, by_)))
theorem key_spec_PutAll : H.key 186 = some h_spec_PutAll := by kernel_rfl
noncomputable def spec_PutAll_L0 (wide : Int) (vars : Int) (t : Bool × List DNode) (by_ : Bool × List (Bool × List DNode)) (t26 : Bool × List (Bool × List DNode)) (t27 : Int) (t28 : Int) : Option (Bool ⊕ Unit) := (inf H).loop 186 0 (loopCode Try.f186 0) (wide, (vars, (t, (by_, (t26, (t27, t28))))))
noncomputable def spec_PutAll_L2 (wide : Int) (vars : Int) (by_ : Bool × List (Bool × List DNode)) (out : Bool × List DNode) (t38 : Bool × List DNode) (t39 : Int) (t40 : Int) : Option (Bool × List DNode) := (inf H).loop 186 2 (loopCode Try.f186 2) (wide, (vars, (by_, (out, (t38, (t39, t40))))))
noncomputable def spec_l16One (p : DProgram) (k_ : Int) (t : Bool × List DNode) : Option ((Bool × List DNode) × Bool) := (inf H).call 149 (p, (k_, t))
theorem key_spec_l16One : H.key 149 = some h_spec_l16One := by kernel_rfl
noncomputable def spec_l16One_L0 (k_ : Int) (t : Bool × List DNode) (p : DProgram) (by_ : Bool × List (Bool × List DNode)) (v : Int) : Option (Bool × List (Bool × List DNode)) := (inf H).loop 149 0 (loopCode Try.f149 0) (k_, (t, (p, (by_, v))))
noncomputable def spec_l16One_L2 (t : Bool × List DNode) (p : DProgram) (by_ : Bool × List (Bool × List DNode)) (t30 : Bool × List DChange) (t31 : Int) (t32 : Int) : Option (Bool × List (Bool × List DNode)) := (inf H).loop 149 2 (loopCode Try.f149 2) (t, (p, (by_, (t30, (t31, t32)))))
noncomputable def spec_l20Terms (p : DProgram) (preds : Bool × List (Bool × List DNode)) : Option (Bool × List (Bool × List DNode)) := (inf H).call 113 (p, preds)
theorem key_spec_l20Terms : H.key 113 = some h_spec_l20Terms := by kernel_rfl
noncomputable def spec_l20Terms_L0 (preds : Bool × List (Bool × List DNode)) (p : DProgram) (out : Bool × List (Bool × List DNode)) (t14 : Bool × List DCommand) (t15 : Int) (t16 : Int) : Option (Bool × List (Bool × List DNode)) := (inf H).loop 113 0 (loopCode Try.f113 0) (preds, (p, (out, (t14, (t15, t16)))))
noncomputable def spec_l20Terms_L2 (p : DProgram) (out : Bool × List (Bool × List DNode)) (t25 : Bool × List (Bool × List DNode)) (t26 : Int) (t27 : Int) : Option (Bool × List (Bool × List DNode)) := (inf H).loop 113 2 (loopCode Try.f113 2) (p, (out, (t25, (t26, t27))))
noncomputable def spec_l20Terms_L4 (p : DProgram) (out : Bool × List (Bool × List DNode)) (t : Bool × List DNode) (t25 : Bool × List (Bool × List DNode)) (t26 : Int) (t27 : Int) (t33 : Int) (t34 : Int) : Option (Bool × List (Bool × List DNode)) := (inf H).loop 113 4 (loopCode Try.f113 4) (p, (out, (t, (t25, (t26, (t27, (t33, t34)))))))
noncomputable def spec_TryTerms (p : DProgram) (preds : Bool × List (Bool × List DNode)) : Option ((Bool × List (Bool × List DNode)) × Bool) := (inf H).call 51 (p, preds)
noncomputable def impl_isWide (n : Int) : Option Bool := (inf H).call 177 n
noncomputable def impl_isVars (n : Int) : Option Bool := (inf H).call 178 n
noncomputable def impl_operandsOf (op : Int) : Option (Int × Int × Int) := (inf H).call 212 op
noncomputable def impl_mask (wide : Int) : Option Int := (inf H).call 143 wide
noncomputable def impl_GoodWord (wide : Int) (a : Int) : Option Bool := (inf H).call 226 (wide, a)
noncomputable def impl_isLeafRight (wide : Int) (vars : Int) (x : DNode) : Option Bool := (inf H).call 213 (wide, (vars, x))
noncomputable def impl_GoodTerm_1 (own : Int) (a1 : Int) : Option Bool := (inf H).call 214 (own, a1)
noncomputable def slices_IndexFunc_int_by_GoodTerm_1 (s : Bool × List Int) (f : Int × Unit) : Option Int := (inf H).call 141 (s, f)
theorem key_slices_IndexFunc_int_by_GoodTerm_1 : H.key 141 = some h_slices_IndexFunc_int_by_GoodTerm_1 := by kernel_rfl
noncomputable def slices_IndexFunc_int_by_GoodTerm_1_L0 (s : Bool × List Int) (f : Int × Unit) (t7 : Int) (t8 : Int) : Option (Int ⊕ Unit) := (inf H).loop 141 0 (loopCode Try.f141 0) (s, (f, (t7, t8)))
noncomputable def slices_ContainsFunc_int_by_GoodTerm_1 (s : Bool × List Int) (f : Int × Unit) : Option Bool := (inf H).call 88 (s, f)
noncomputable def impl_GoodTerm (wide : Int) (vars : Int) (t : Bool × List DNode) : Option Bool := (inf H).call 182 (wide, (vars, t))
theorem key_impl_GoodTerm : H.key 182 = some h_impl_GoodTerm := by kernel_rfl
noncomputable def impl_GoodTerm_L0 (wide : Int) (vars : Int) (stack : Bool × List Int) (t33 : Bool × List DNode) (t34 : Int) (t35 : Int) : Option (Bool ⊕ (Bool × List Int)) := (inf H).loop 182 0 (loopCode Try.f182 0) (wide, (vars, (stack, (t33, (t34, t35)))))
noncomputable def impl_kindOf (t : Bool × List DNode) : Option Int := (inf H).call 183 t
noncomputable def impl_isTermOf (wide : Int) (vars : Int) (t : Bool × List DNode) (kind : Int) : Option Bool := (inf H).call 140 (wide, (vars, (t, kind)))
noncomputable def impl_Program_isCondition (p : DProgram) (t : Bool × List DNode) : Option Bool := (inf H).call 87 (p, t)
noncomputable def impl_Program_isCommand (p : DProgram) (c : DCommand) : Option Bool := (inf H).call 181 (p, c)
theorem key_impl_Program_isCommand : H.key 181 = some h_impl_Program_isCommand := by kernel_rfl
noncomputable def impl_Program_isCommand_L0 (p : DProgram) (c : DCommand) (t13 : Bool × List DChange) (t14 : Int) (t15 : Int) : Option (Bool ⊕ Unit) := (inf H).loop 181 0 (loopCode Try.f181 0) (p, (c, (t13, (t14, t15))))
noncomputable def impl_GoodProgram_1 (c : DCommand) (a1 : DProgram) : Option Bool := (inf H).call 180 (c, a1)
noncomputable def slices_IndexFunc_Command_by_GoodProgram_1 (s : Bool × List DCommand) (f : DProgram × Unit) : Option Int := (inf H).call 211 (s, f)
theorem key_slices_IndexFunc_Command_by_GoodProgram_1 : H.key 211 = some h_slices_IndexFunc_Command_by_GoodProgram_1 := by kernel_rfl
noncomputable def slices_IndexFunc_Command_by_GoodProgram_1_L0 (s : Bool × List DCommand) (f : DProgram × Unit) (t7 : Int) (t8 : Int) : Option (Int ⊕ Unit) := (inf H).loop 211 0 (loopCode Try.f211 0) (s, (f, (t7, t8)))
noncomputable def slices_ContainsFunc_Command_by_GoodProgram_1 (s : Bool × List DCommand) (f : DProgram × Unit) : Option Bool := (inf H).call 179 (s, f)
noncomputable def impl_GoodProgram (p : DProgram) : Option Bool := (inf H).call 139 p
noncomputable def impl_isSmall (p : DProgram) : Option Bool := (inf H).call 84 p
noncomputable def impl_Program_arePreds_1 (t : Bool × List DNode) (a1 : DProgram) : Option Bool := (inf H).call 156 (t, a1)
noncomputable def slices_IndexFunc_Node_by_Program_arePreds_1 (s : Bool × List (Bool × List DNode)) (f : DProgram × Unit) : Option Int := (inf H).call 190 (s, f)
theorem key_slices_IndexFunc_Node_by_Program_arePreds_1 : H.key 190 = some h_slices_IndexFunc_Node_by_Program_arePreds_1 := by kernel_rfl
noncomputable def slices_IndexFunc_Node_by_Program_arePreds_1_L0 (s : Bool × List (Bool × List DNode)) (f : DProgram × Unit) (t7 : Int) (t8 : Int) : Option (Int ⊕ Unit) := (inf H).loop 190 0 (loopCode Try.f190 0) (s, (f, (t7, t8)))
noncomputable def slices_ContainsFunc_Node_by_Program_arePreds_1 (s : Bool × List (Bool × List DNode)) (f : DProgram × Unit) : Option Bool := (inf H).call 155 (s, f)
noncomputable def impl_Program_arePreds (p : DProgram) (preds : Bool × List (Bool × List DNode)) (least : Int) : Option Bool := (inf H).call 114 (p, (preds, least))
noncomputable def slices_Equal_Node (s1 : Bool × List DNode) (s2 : Bool × List DNode) : Option Bool := (inf H).call 159 (s1, s2)
theorem key_slices_Equal_Node : H.key 159 = some h_slices_Equal_Node := by kernel_rfl
noncomputable def slices_Equal_Node_L0 (s1 : Bool × List DNode) (s2 : Bool × List DNode) (t12 : Int) (t13 : Int) : Option (Bool ⊕ Unit) := (inf H).loop 159 0 (loopCode Try.f159 0) (s1, (s2, (t12, t13)))
noncomputable def impl_tryTerms_1_1 (own : Bool × List DNode) (a1 : Bool × List DNode) : Option Bool := (inf H).call 158 (own, a1)
noncomputable def slices_IndexFunc_Node_by_tryTerms_1_1 (s : Bool × List (Bool × List DNode)) (f : (Bool × List DNode) × Unit) : Option Int := (inf H).call 10063 (s, f)
theorem key_slices_IndexFunc_Node_by_tryTerms_1_1 : H.key 10063 = some h_slices_IndexFunc_Node_by_tryTerms_1_1 := by kernel_rfl
noncomputable def slices_IndexFunc_Node_by_tryTerms_1_1_L0 (s : Bool × List (Bool × List DNode)) (f : (Bool × List DNode) × Unit) (t7 : Int) (t8 : Int) : Option (Int ⊕ Unit) := (inf H).loop 10063 0 (loopCode Try.f190 0) (s, (f, (t7, t8)))
noncomputable def slices_ContainsFunc_Node_by_tryTerms_1_1 (s : Bool × List (Bool × List DNode)) (f : (Bool × List DNode) × Unit) : Option Bool := (inf H).call 10062 (s, f)
noncomputable def slices_Clone_Node (s : Bool × List DNode) : Option (Bool × List DNode) := (inf H).call 109 s
noncomputable def impl_tryTerms_1 (t : Bool × List DNode) (a1 : Bool × List (Bool × List DNode)) : Option (Bool × List (Bool × List DNode)) := (inf H).call 157 (t, a1)
noncomputable def impl_PutAll_1 (own : Bool × List DNode) (a1 : Int) (a2 : Int) : Option Bool := (inf H).call 219 (own, (a1, a2))
noncomputable def slices_IndexFunc_Node_by_PutAll_1 (s : Bool × List (Bool × List DNode)) (f : Int × Int × Unit) : Option Int := (inf H).call 10070 (s, f)
theorem key_slices_IndexFunc_Node_by_PutAll_1 : H.key 10070 = some h_slices_IndexFunc_Node_by_PutAll_1 := by kernel_rfl
noncomputable def slices_IndexFunc_Node_by_PutAll_1_L0 (s : Bool × List (Bool × List DNode)) (f : Int × Int × Unit) (t7 : Int) (t8 : Int) : Option (Int ⊕ Unit) := (inf H).loop 10070 0 (loopCode Try.f190 0) (s, (f, (t7, t8)))
noncomputable def slices_ContainsFunc_Node_by_PutAll_1 (s : Bool × List (Bool × List DNode)) (f : Int × Int × Unit) : Option Bool := (inf H).call 10069 (s, f)
noncomputable def impl_checkedTerm (wide : Int) (vars : Int) (t : Bool × List DNode) : Option ((Bool × List DNode) × Bool) := (inf H).call 153 (wide, (vars, t))
noncomputable def impl_PutAll (wide : Int) (vars : Int) (t : Bool × List DNode) (by_ : Bool × List (Bool × List DNode)) : Option ((Bool × List DNode) × Bool) := (inf H).call 188 (wide, (vars, (t, by_)))
theorem key_impl_PutAll : H.key 188 = some h_impl_PutAll := by kernel_rfl
noncomputable def impl_PutAll_L0 (by_ : Bool × List (Bool × List DNode)) (wide : Int) (vars : Int) (out : Bool × List DNode) (t30 : Bool × List DNode) (t31 : Int) (t32 : Int) : Option (Bool × List DNode) := (inf H).loop 188 0 (loopCode Try.f188 0) (by_, (wide, (vars, (out, (t30, (t31, t32))))))
noncomputable def impl_Program_beforeOne (p : DProgram) (k_ : Int) (t : Bool × List DNode) : Option ((Bool × List DNode) × Bool) := (inf H).call 152 (p, (k_, t))
theorem key_impl_Program_beforeOne : H.key 152 = some h_impl_Program_beforeOne := by kernel_rfl
noncomputable def impl_Program_beforeOne_L0 (k_ : Int) (t : Bool × List DNode) (p : DProgram) (by_ : Bool × List (Bool × List DNode)) (t14 : Int) (t15 : Int) : Option (Bool × List (Bool × List DNode)) := (inf H).loop 152 0 (loopCode Try.f152 0) (k_, (t, (p, (by_, (t14, t15)))))
noncomputable def impl_Program_beforeOne_L2 (t : Bool × List DNode) (p : DProgram) (by_ : Bool × List (Bool × List DNode)) (t31 : Bool × List DChange) (t32 : Int) (t33 : Int) : Option (Bool × List (Bool × List DNode)) := (inf H).loop 152 2 (loopCode Try.f152 2) (t, (p, (by_, (t31, (t32, t33)))))
noncomputable def impl_tryTerms (p : DProgram) (preds : Bool × List (Bool × List DNode)) : Option (Bool × List (Bool × List DNode)) := (inf H).call 115 (p, preds)
theorem key_impl_tryTerms : H.key 115 = some h_impl_tryTerms := by kernel_rfl
noncomputable def impl_tryTerms_L0 (preds : Bool × List (Bool × List DNode)) (p : DProgram) (out : Bool × List (Bool × List DNode)) (t17 : Bool × List DCommand) (t18 : Int) (t19 : Int) : Option (Bool × List (Bool × List DNode)) := (inf H).loop 115 0 (loopCode Try.f115 0) (preds, (p, (out, (t17, (t18, t19)))))
noncomputable def impl_tryTerms_L2 (p : DProgram) (out : Bool × List (Bool × List DNode)) (t28 : Bool × List (Bool × List DNode)) (t29 : Int) (t30 : Int) : Option (Bool × List (Bool × List DNode)) := (inf H).loop 115 2 (loopCode Try.f115 2) (p, (out, (t28, (t29, t30))))
noncomputable def impl_tryTerms_L4 (p : DProgram) (out : Bool × List (Bool × List DNode)) (t : Bool × List DNode) (t28 : Bool × List (Bool × List DNode)) (t29 : Int) (t30 : Int) (t36 : Int) (t37 : Int) : Option (Bool × List (Bool × List DNode)) := (inf H).loop 115 4 (loopCode Try.f115 4) (p, (out, (t, (t28, (t29, (t30, (t36, t37)))))))
noncomputable def impl_TryTerms (p : DProgram) (preds : Bool × List (Bool × List DNode)) : Option ((Bool × List (Bool × List DNode)) × Bool) := (inf H).call 53 (p, preds)
noncomputable def laws_eqNode (a : DNode) (b : DNode) : Option Bool := (inf H).call 79 (a, b)
noncomputable def laws_eqNodeS (a : Bool × List DNode) (b : Bool × List DNode) : Option Bool := (inf H).call 21 (a, b)
theorem key_laws_eqNodeS : H.key 21 = some h_laws_eqNodeS := by kernel_rfl
noncomputable def laws_eqNodeS_L0 (a : Bool × List DNode) (b : Bool × List DNode) (i : Int) : Option (Bool ⊕ Unit) := (inf H).loop 21 0 (loopCode Try.f21 0) (a, (b, i))
noncomputable def laws_eqNodeSS (a : Bool × List (Bool × List DNode)) (b : Bool × List (Bool × List DNode)) : Option Bool := (inf H).call 54 (a, b)
theorem key_laws_eqNodeSS : H.key 54 = some h_laws_eqNodeSS := by kernel_rfl
noncomputable def laws_eqNodeSS_L0 (a : Bool × List (Bool × List DNode)) (b : Bool × List (Bool × List DNode)) (i : Int) : Option (Bool ⊕ Unit) := (inf H).loop 54 0 (loopCode Try.f54 0) (a, (b, i))
noncomputable def laws_eqChange (a : DChange) (b : DChange) : Option Bool := (inf H).call 210 (a, b)
noncomputable def laws_eqChangeS (a : Bool × List DChange) (b : Bool × List DChange) : Option Bool := (inf H).call 176 (a, b)
theorem key_laws_eqChangeS : H.key 176 = some h_laws_eqChangeS := by kernel_rfl
noncomputable def laws_eqChangeS_L0 (a : Bool × List DChange) (b : Bool × List DChange) (i : Int) : Option (Bool ⊕ Unit) := (inf H).loop 176 0 (loopCode Try.f176 0) (a, (b, i))
noncomputable def laws_eqCommand (a : DCommand) (b : DCommand) : Option Bool := (inf H).call 137 (a, b)
noncomputable def laws_eqCommandS (a : Bool × List DCommand) (b : Bool × List DCommand) : Option Bool := (inf H).call 78 (a, b)
theorem key_laws_eqCommandS : H.key 78 = some h_laws_eqCommandS := by kernel_rfl
noncomputable def laws_eqCommandS_L0 (a : Bool × List DCommand) (b : Bool × List DCommand) (i : Int) : Option (Bool ⊕ Unit) := (inf H).loop 78 0 (loopCode Try.f78 0) (a, (b, i))
noncomputable def laws_eqProgram (a : DProgram) (b : DProgram) : Option Bool := (inf H).call 20 (a, b)
noncomputable def laws_markNodeS (a : Bool × List DNode) (k_ : Int) : Option ((Bool × List DNode) × Int) := (inf H).call 48 (a, k_)
theorem key_laws_markNodeS : H.key 48 = some h_laws_markNodeS := by kernel_rfl
noncomputable def laws_markNodeS_L0 (a : Bool × List DNode) (k_ : Int) (i : Int) : Option ((Bool × List DNode) × Int) := (inf H).loop 48 0 (loopCode Try.f48 0) (a, (k_, i))
noncomputable def laws_markChangeS (a : Bool × List DChange) (k_ : Int) : Option ((Bool × List DChange) × Int) := (inf H).call 148 (a, k_)
theorem key_laws_markChangeS : H.key 148 = some h_laws_markChangeS := by kernel_rfl
noncomputable def laws_markChangeS_L0 (a : Bool × List DChange) (k_ : Int) (i : Int) : Option ((Bool × List DChange) × Int) := (inf H).loop 148 0 (loopCode Try.f148 0) (a, (k_, i))
noncomputable def laws_markCommandS (a : Bool × List DCommand) (k_ : Int) : Option ((Bool × List DCommand) × Int) := (inf H).call 103 (a, k_)
theorem key_laws_markCommandS : H.key 103 = some h_laws_markCommandS := by kernel_rfl
noncomputable def laws_markCommandS_L0 (a : Bool × List DCommand) (k_ : Int) (i : Int) : Option ((Bool × List DCommand) × Int) := (inf H).loop 103 0 (loopCode Try.f103 0) (a, (k_, i))
noncomputable def laws_markProgram (a0_0 : Int) (a0_1 : Int) (a0_2 : Bool × List DNode) (a0_3 : Bool × List DCommand) (k_ : Int) : Option ((Bool × List DNode) × (Bool × List DCommand) × Int) := (inf H).call 42 (a0_0, (a0_1, (a0_2, (a0_3, k_))))
noncomputable def laws_markNodeSS (a : Bool × List (Bool × List DNode)) (k_ : Int) : Option ((Bool × List (Bool × List DNode)) × Int) := (inf H).call 55 (a, k_)
theorem key_laws_markNodeSS : H.key 55 = some h_laws_markNodeSS := by kernel_rfl
noncomputable def laws_markNodeSS_L0 (a : Bool × List (Bool × List DNode)) (k_ : Int) (i : Int) : Option ((Bool × List (Bool × List DNode)) × Int) := (inf H).loop 55 0 (loopCode Try.f55 0) (a, (k_, i))
noncomputable def laws_heldNodeS (a : Bool × List DNode) (k_ : Int) : Option Int := (inf H).call 49 (a, k_)
theorem key_laws_heldNodeS : H.key 49 = some h_laws_heldNodeS := by kernel_rfl
noncomputable def laws_heldNodeS_L0 (a : Bool × List DNode) (k_ : Int) (i : Int) : Option (Int ⊕ Int) := (inf H).loop 49 0 (loopCode Try.f49 0) (a, (k_, i))
noncomputable def laws_heldNodeSS (a : Bool × List (Bool × List DNode)) (k_ : Int) : Option Int := (inf H).call 56 (a, k_)
theorem key_laws_heldNodeSS : H.key 56 = some h_laws_heldNodeSS := by kernel_rfl
noncomputable def laws_heldNodeSS_L0 (a : Bool × List (Bool × List DNode)) (k_ : Int) (i : Int) : Option (Int ⊕ Int) := (inf H).loop 56 0 (loopCode Try.f56 0) (a, (k_, i))
noncomputable def laws_FnExactTryTerms (aP : DProgram) (aPreds : Bool × List (Bool × List DNode)) : Option Bool := (inf H).call 10 (aP, aPreds)
theorem laws_szNodeS_eq (a : Bool × List DNode) (left_ : Int) : laws_szNodeS a left_ =
 bif decide ((IntKind.i64.wrap (left_ - (a.2.length : Int))) < 0) then
 some (-1)
else 
 some (IntKind.i64.wrap (left_ - (a.2.length : Int))) := Eq.trans (inf_call_eq (H := H) 15 (a, left_)) (by kernel_rfl)
theorem laws_szChange_eq (a : DChange) (left_ : Int) : laws_szChange a left_ =
(laws_szNodeS a.2 left_).bind fun r =>
 bif decide (r < 0) then
 some (-1)
else 
 some r := Eq.trans (inf_call_eq (H := H) 206 (a, left_)) (by kernel_rfl)
theorem laws_szChangeS_L0_eq (a : Bool × List DChange) (left_ : Int) (i : Int) : laws_szChangeS_L0 a left_ i =
 bif decide (i < (a.2.length : Int)) then
 bif decide (0 ≤ i) then
 bif decide (i < (a.2.length : Int)) then
(laws_szChange (a.2.getD (Int.toNat i) (0, (true, []))) left_).bind fun r =>
 bif decide (r < 0) then
 some (.inl (-1))
else 
(laws_szChangeS_L0 a r (IntKind.i64.wrap (i + 1))).bind fun r => some r
else none
else none
else 
 some (.inr left_) := Eq.trans (inf_loop_eq (H := H) 169 0 (loopCode Try.f169 0) (a, (left_, i)) key_laws_szChangeS) (by kernel_rfl)
theorem laws_szChangeS_eq (a : Bool × List DChange) (left_ : Int) : laws_szChangeS a left_ =
 bif decide ((IntKind.i64.wrap (left_ - (a.2.length : Int))) < 0) then
 some (-1)
else 
(laws_szChangeS_L0 a (IntKind.i64.wrap (left_ - (a.2.length : Int))) 0).bind fun r =>
 match r with
| .inl y =>
 some y
| .inr z =>
 some z := Eq.trans (inf_call_eq (H := H) 169 (a, left_)) (by kernel_rfl)
theorem laws_szCommand_eq (a : DCommand) (left_ : Int) : laws_szCommand a left_ =
(laws_szNodeS a.1 left_).bind fun r =>
 bif decide (r < 0) then
 some (-1)
else 
(laws_szChangeS a.2 r).bind fun r1 =>
 bif decide (r1 < 0) then
 some (-1)
else 
 some r1 := Eq.trans (inf_call_eq (H := H) 128 (a, left_)) (by kernel_rfl)
theorem laws_szCommandS_L0_eq (a : Bool × List DCommand) (left_ : Int) (i : Int) : laws_szCommandS_L0 a left_ i =
 bif decide (i < (a.2.length : Int)) then
 bif decide (0 ≤ i) then
 bif decide (i < (a.2.length : Int)) then
(laws_szCommand (a.2.getD (Int.toNat i) ((true, []), (true, []))) left_).bind fun r =>
 bif decide (r < 0) then
 some (.inl (-1))
else 
(laws_szCommandS_L0 a r (IntKind.i64.wrap (i + 1))).bind fun r => some r
else none
else none
else 
 some (.inr left_) := Eq.trans (inf_loop_eq (H := H) 68 0 (loopCode Try.f68 0) (a, (left_, i)) key_laws_szCommandS) (by kernel_rfl)
theorem laws_szCommandS_eq (a : Bool × List DCommand) (left_ : Int) : laws_szCommandS a left_ =
 bif decide ((IntKind.i64.wrap (left_ - (a.2.length : Int))) < 0) then
 some (-1)
else 
(laws_szCommandS_L0 a (IntKind.i64.wrap (left_ - (a.2.length : Int))) 0).bind fun r =>
 match r with
| .inl y =>
 some y
| .inr z =>
 some z := Eq.trans (inf_call_eq (H := H) 68 (a, left_)) (by kernel_rfl)
theorem laws_szProgram_eq (a : DProgram) (left_ : Int) : laws_szProgram a left_ =
(laws_szNodeS a.2.2.1 left_).bind fun r =>
 bif decide (r < 0) then
 some (-1)
else 
(laws_szCommandS a.2.2.2 r).bind fun r1 =>
 bif decide (r1 < 0) then
 some (-1)
else 
 some r1 := Eq.trans (inf_call_eq (H := H) 14 (a, left_)) (by kernel_rfl)
theorem laws_szNodeSS_L0_eq (a : Bool × List (Bool × List DNode)) (left_ : Int) (i : Int) : laws_szNodeSS_L0 a left_ i =
 bif decide (i < (a.2.length : Int)) then
 bif decide (0 ≤ i) then
 bif decide (i < (a.2.length : Int)) then
(laws_szNodeS (a.2.getD (Int.toNat i) (true, [])) left_).bind fun r =>
 bif decide (r < 0) then
 some (.inl (-1))
else 
(laws_szNodeSS_L0 a r (IntKind.i64.wrap (i + 1))).bind fun r => some r
else none
else none
else 
 some (.inr left_) := Eq.trans (inf_loop_eq (H := H) 50 0 (loopCode Try.f50 0) (a, (left_, i)) key_laws_szNodeSS) (by kernel_rfl)
theorem laws_szNodeSS_eq (a : Bool × List (Bool × List DNode)) (left_ : Int) : laws_szNodeSS a left_ =
 bif decide ((IntKind.i64.wrap (left_ - (a.2.length : Int))) < 0) then
 some (-1)
else 
(laws_szNodeSS_L0 a (IntKind.i64.wrap (left_ - (a.2.length : Int))) 0).bind fun r =>
 match r with
| .inl y =>
 some y
| .inr z =>
 some z := Eq.trans (inf_call_eq (H := H) 50 (a, left_)) (by kernel_rfl)
theorem laws_toNode_eq (a : DNode) : laws_toNode a =
 some (a.1, a.2) := Eq.trans (inf_call_eq (H := H) 74 a) (by kernel_rfl)
theorem laws_toNodeS_L0_eq (a : Bool × List DNode) (out : Bool × List DNode) (i : Int) : laws_toNodeS_L0 a out i =
 bif decide (i < (a.2.length : Int)) then
 bif decide (0 ≤ i) then
 bif decide (i < (a.2.length : Int)) then
(laws_toNode (a.2.getD (Int.toNat i) (0, 0))).bind fun r =>
 bif decide (0 ≤ i) then
 bif decide (i < (out.2.length : Int)) then
(laws_toNodeS_L0 a (out.1, (out.2.set (Int.toNat i) r)) (IntKind.i64.wrap (i + 1))).bind fun r => some r
else none
else none
else none
else none
else 
 some (out.1, out.2) := Eq.trans (inf_loop_eq (H := H) 18 0 (loopCode Try.f18 0) (a, (out, i)) key_laws_toNodeS) (by kernel_rfl)
theorem laws_toNodeS_eq (a : Bool × List DNode) : laws_toNodeS a =
 bif decide (0 ≤ (a.2.length : Int)) then
 bif decide ((a.2.length : Int) ≤ lim) then
 bif decide ((a.2.length : Int) ≤ (a.2.length : Int)) then
 bif decide ((a.2.length : Int) ≤ lim) then
(laws_toNodeS_L0 a (false, (List.replicate (Int.toNat (a.2.length : Int)) ((0, 0) : DNode))) 0).bind fun r =>
 some (r.1, r.2)
else none
else none
else none
else none := Eq.trans (inf_call_eq (H := H) 18 a) (by kernel_rfl)
theorem laws_toChange_eq (a : DChange) : laws_toChange a =
(laws_toNodeS a.2).bind fun r =>
 some (a.1, (r.1, r.2)) := Eq.trans (inf_call_eq (H := H) 209 a) (by kernel_rfl)
theorem laws_toChangeS_L0_eq (a : Bool × List DChange) (out : Bool × List DChange) (i : Int) : laws_toChangeS_L0 a out i =
 bif decide (i < (a.2.length : Int)) then
 bif decide (0 ≤ i) then
 bif decide (i < (a.2.length : Int)) then
(laws_toChange (a.2.getD (Int.toNat i) (0, (true, [])))).bind fun r =>
 bif decide (0 ≤ i) then
 bif decide (i < (out.2.length : Int)) then
(laws_toChangeS_L0 a (out.1, (out.2.set (Int.toNat i) (r.1, (r.2.1, r.2.2)))) (IntKind.i64.wrap (i + 1))).bind fun r => some r
else none
else none
else none
else none
else 
 some (out.1, out.2) := Eq.trans (inf_loop_eq (H := H) 175 0 (loopCode Try.f175 0) (a, (out, i)) key_laws_toChangeS) (by kernel_rfl)
theorem laws_toChangeS_eq (a : Bool × List DChange) : laws_toChangeS a =
 bif decide (0 ≤ (a.2.length : Int)) then
 bif decide ((a.2.length : Int) ≤ lim) then
 bif decide ((a.2.length : Int) ≤ (a.2.length : Int)) then
 bif decide ((a.2.length : Int) ≤ lim) then
(laws_toChangeS_L0 a (false, (List.replicate (Int.toNat (a.2.length : Int)) ((0, (true, [])) : DChange))) 0).bind fun r =>
 some (r.1, r.2)
else none
else none
else none
else none := Eq.trans (inf_call_eq (H := H) 175 a) (by kernel_rfl)
theorem laws_toCommand_eq (a : DCommand) : laws_toCommand a =
(laws_toNodeS a.1).bind fun r =>
(laws_toChangeS a.2).bind fun r1 =>
 some ((r.1, r.2), (r1.1, r1.2)) := Eq.trans (inf_call_eq (H := H) 135 a) (by kernel_rfl)
theorem laws_toCommandS_L0_eq (a : Bool × List DCommand) (out : Bool × List DCommand) (i : Int) : laws_toCommandS_L0 a out i =
 bif decide (i < (a.2.length : Int)) then
 bif decide (0 ≤ i) then
 bif decide (i < (a.2.length : Int)) then
(laws_toCommand (a.2.getD (Int.toNat i) ((true, []), (true, [])))).bind fun r =>
 bif decide (0 ≤ i) then
 bif decide (i < (out.2.length : Int)) then
(laws_toCommandS_L0 a (out.1, (out.2.set (Int.toNat i) ((r.1.1, r.1.2), (r.2.1, r.2.2)))) (IntKind.i64.wrap (i + 1))).bind fun r => some r
else none
else none
else none
else none
else 
 some (out.1, out.2) := Eq.trans (inf_loop_eq (H := H) 73 0 (loopCode Try.f73 0) (a, (out, i)) key_laws_toCommandS) (by kernel_rfl)
theorem laws_toCommandS_eq (a : Bool × List DCommand) : laws_toCommandS a =
 bif decide (0 ≤ (a.2.length : Int)) then
 bif decide ((a.2.length : Int) ≤ lim) then
 bif decide ((a.2.length : Int) ≤ (a.2.length : Int)) then
 bif decide ((a.2.length : Int) ≤ lim) then
(laws_toCommandS_L0 a (false, (List.replicate (Int.toNat (a.2.length : Int)) (((true, []), (true, [])) : DCommand))) 0).bind fun r =>
 some (r.1, r.2)
else none
else none
else none
else none := Eq.trans (inf_call_eq (H := H) 73 a) (by kernel_rfl)
theorem laws_toProgram_eq (a : DProgram) : laws_toProgram a =
(laws_toNodeS a.2.2.1).bind fun r =>
(laws_toCommandS a.2.2.2).bind fun r1 =>
 some (a.1, (a.2.1, ((r.1, r.2), (r1.1, r1.2)))) := Eq.trans (inf_call_eq (H := H) 17 a) (by kernel_rfl)
theorem laws_toNodeSS_L0_eq (a : Bool × List (Bool × List DNode)) (out : Bool × List (Bool × List DNode)) (i : Int) : laws_toNodeSS_L0 a out i =
 bif decide (i < (a.2.length : Int)) then
 bif decide (0 ≤ i) then
 bif decide (i < (a.2.length : Int)) then
(laws_toNodeS (a.2.getD (Int.toNat i) (true, []))).bind fun r =>
 bif decide (0 ≤ i) then
 bif decide (i < (out.2.length : Int)) then
(laws_toNodeSS_L0 a (out.1, (out.2.set (Int.toNat i) (r.1, r.2))) (IntKind.i64.wrap (i + 1))).bind fun r => some r
else none
else none
else none
else none
else 
 some (out.1, out.2) := Eq.trans (inf_loop_eq (H := H) 52 0 (loopCode Try.f52 0) (a, (out, i)) key_laws_toNodeSS) (by kernel_rfl)
theorem laws_toNodeSS_eq (a : Bool × List (Bool × List DNode)) : laws_toNodeSS a =
 bif decide (0 ≤ (a.2.length : Int)) then
 bif decide ((a.2.length : Int) ≤ lim) then
 bif decide ((a.2.length : Int) ≤ (a.2.length : Int)) then
 bif decide ((a.2.length : Int) ≤ lim) then
(laws_toNodeSS_L0 a (false, (List.replicate (Int.toNat (a.2.length : Int)) ((true, []) : Bool × List DNode))) 0).bind fun r =>
 some (r.1, r.2)
else none
else none
else none
else none := Eq.trans (inf_call_eq (H := H) 52 a) (by kernel_rfl)
theorem spec_l1In_eq (n : Int) (lo : Int) (hi : Int) : spec_l1In n lo hi =
 bif decide (n ≥ lo) then
 some (decide (n ≤ hi))
else 
 some false := Eq.trans (inf_call_eq (H := H) 96 (n, (lo, hi))) (by kernel_rfl)
theorem spec_l1Wide_eq (wide : Int) : spec_l1Wide wide =
(spec_l1In wide 1 64).bind fun r =>
 some r := Eq.trans (inf_call_eq (H := H) 171 wide) (by kernel_rfl)
theorem spec_l2Need_eq (op : Int) : spec_l2Need op =
 bif (op == 1) then
 some (0, (1, 1))
else 
 bif (op == 2) then
 some (0, (1, 1))
else 
 bif (op == 20) then
 some (0, (2, 2))
else 
 bif (op == 13) then
 some (1, (1, 1))
else 
 bif (op == 19) then
 some (1, (2, 2))
else 
(spec_l1In op 3 12).bind fun r =>
 bif r then
 some (2, (1, 1))
else 
(spec_l1In op 14 16).bind fun r1 =>
 bif r1 then
 some (2, (1, 2))
else 
 bif (op == 17) then
 some (2, (2, 2))
else 
 bif (op == 18) then
 some (2, (2, 2))
else 
 some (0, (0, 0)) := Eq.trans (inf_call_eq (H := H) 172 op) (by kernel_rfl)
theorem spec_l1Cut_L0_eq (wide : Int) (a : Int) (out : Int) (k_ : Int) : spec_l1Cut_L0 wide a out k_ =
 bif decide (k_ < wide) then
 bif decide ((IntKind.u64.wrap k_) < 0) then
 none
else 
(spec_l1Cut_L0 wide a (bOr .u64 out (bAnd .u64 a (bShl .u64 1 (IntKind.u64.wrap k_)))) (IntKind.i64.wrap (k_ + 1))).bind fun r => some r
else 
 some out := Eq.trans (inf_loop_eq (H := H) 196 0 (loopCode Try.f196 0) (wide, (a, (out, k_))) key_spec_l1Cut) (by kernel_rfl)
theorem spec_l1Cut_eq (wide : Int) (a : Int) : spec_l1Cut wide a =
(spec_l1Cut_L0 wide a 0 0).bind fun r =>
 some r := Eq.trans (inf_call_eq (H := H) 196 (wide, a)) (by kernel_rfl)
theorem spec_GoodWord_eq (wide : Int) (a : Int) : spec_GoodWord wide a =
(spec_l1Wide wide).bind fun r =>
 bif r then
(spec_l1Cut wide a).bind fun r1 =>
 some (r1 == a)
else 
 some false := Eq.trans (inf_call_eq (H := H) 207 (wide, a)) (by kernel_rfl)
theorem spec_l2N_eq (wide : Int) (vars : Int) (n : DNode) : spec_l2N wide vars n =
 bif (n.1 == 1) then
(spec_GoodWord wide n.2).bind fun r =>
 some r
else 
 bif (n.1 == 2) then
 some (decide (n.2 < (IntKind.u64.wrap vars)))
else 
 bif (n.1 == 20) then
 some (decide (n.2 < 2))
else 
 some (n.2 == 0) := Eq.trans (inf_call_eq (H := H) 173 (wide, (vars, n))) (by kernel_rfl)
theorem spec_l2Kind_L0_eq (wide : Int) (vars : Int) (pile : Bool × List Int) (t27 : Bool × List DNode) (t28 : Int) (t29 : Int) : spec_l2Kind_L0 wide vars pile t27 t28 t29 =
 bif decide (t29 < t28) then
 bif decide (0 ≤ t29) then
 bif decide (t29 < (t27.2.length : Int)) then
(spec_l2Need ((t27.2.getD (Int.toNat t29) (0, 0)).1)).bind fun r =>
 bif (r.2.2 == 0) then
 some (.inl 0)
else 
(spec_l2N wide vars (t27.2.getD (Int.toNat t29) (0, 0))).bind fun r1 =>
 bif !r1 then
 some (.inl 0)
else 
 bif decide ((pile.2.length : Int) < r.1) then
 some (.inl 0)
else 
(spec_l2Kind_L2 wide vars (pile.1, pile.2) r.1 r.2.1 r.2.2 t27 t28 t29).bind fun r2 =>
 match r2 with
| .inl y =>
 some (.inl y)
| .inr z =>
 bif decide (z.2.length + [r.2.2].length ≤ lim) then
(spec_l2Kind_L0 wide vars ((z.1 && false), (z.2 ++ [r.2.2])) t27 t28 (IntKind.i64.wrap (t29 + 1))).bind fun r => some r
else none
else none
else none
else 
 some (.inr (pile.1, pile.2)) := Eq.trans (inf_loop_eq (H := H) 130 0 (loopCode Try.f130 0) (wide, (vars, (pile, (t27, (t28, t29))))) key_spec_l2Kind) (by kernel_rfl)
theorem spec_l2Kind_L2_eq (wide : Int) (vars : Int) (pile : Bool × List Int) (many : Int) (part : Int) (own : Int) (t27 : Bool × List DNode) (t28 : Int) (t29 : Int) : spec_l2Kind_L2 wide vars pile many part own t27 t28 t29 =
 bif decide (many > 0) then
 bif decide (0 ≤ (IntKind.i64.wrap ((pile.2.length : Int) - 1))) then
 bif decide ((IntKind.i64.wrap ((pile.2.length : Int) - 1)) < (pile.2.length : Int)) then
 bif ((pile.2.getD (Int.toNat (IntKind.i64.wrap ((pile.2.length : Int) - 1))) 0) != part) then
 some (.inl 0)
else 
 bif decide (0 ≤ (IntKind.i64.wrap ((pile.2.length : Int) - 1))) then
 bif decide ((IntKind.i64.wrap ((pile.2.length : Int) - 1)) ≤ (pile.2.length : Int)) then
(spec_l2Kind_L2 wide vars (pile.1, ((pile.2.take (Int.toNat (IntKind.i64.wrap ((pile.2.length : Int) - 1)))).drop 0)) (IntKind.i64.wrap (many - 1)) part own t27 t28 t29).bind fun r => some r
else none
else none
else none
else none
else 
 some (.inr (pile.1, pile.2)) := Eq.trans (inf_loop_eq (H := H) 130 2 (loopCode Try.f130 2) (wide, (vars, (pile, (many, (part, (own, (t27, (t28, t29)))))))) key_spec_l2Kind) (by kernel_rfl)
theorem spec_l2Kind_eq (wide : Int) (vars : Int) (t : Bool × List DNode) : spec_l2Kind wide vars t =
(spec_l1Wide wide).bind fun r =>
 bif !r then
 some 0
else 
(spec_l1In vars 1 4).bind fun r1 =>
 bif !r1 then
 some 0
else 
(spec_l1In (t.2.length : Int) 1 48).bind fun r2 =>
 bif !r2 then
 some 0
else 
(spec_l2Kind_L0 wide vars (true, []) t (t.2.length : Int) 0).bind fun r3 =>
 match r3 with
| .inl y =>
 some y
| .inr z =>
 bif ((z.2.length : Int) != 1) then
 some 0
else 
 bif decide (0 < (z.2.length : Int)) then
 some (z.2.getD 0 0)
else none := Eq.trans (inf_call_eq (H := H) 130 (wide, (vars, t))) (by kernel_rfl)
theorem spec_l7Asks_eq (p : DProgram) (t : Bool × List DNode) : spec_l7Asks p t =
(spec_l2Kind p.1 p.2.1 t).bind fun r =>
 some (r == 2) := Eq.trans (inf_call_eq (H := H) 70 (p, t)) (by kernel_rfl)
theorem spec_l7Command_L0_eq (p : DProgram) (c : DCommand) (t21 : Bool × List DChange) (t22 : Int) (t23 : Int) : spec_l7Command_L0 p c t21 t22 t23 =
 bif decide (t23 < t22) then
 bif decide (0 ≤ t23) then
 bif decide (t23 < (t21.2.length : Int)) then
(spec_l1In ((t21.2.getD (Int.toNat t23) (0, (true, []))).1) 0 (IntKind.i64.wrap (p.2.1 - 1))).bind fun r =>
 bif !r then
 some (.inl false)
else 
 bif decide (t23 > 0) then
 bif decide (0 ≤ (IntKind.i64.wrap (t23 - 1))) then
 bif decide ((IntKind.i64.wrap (t23 - 1)) < (c.2.2.length : Int)) then
 bif decide (((c.2.2.getD (Int.toNat (IntKind.i64.wrap (t23 - 1))) (0, (true, []))).1) ≥ ((t21.2.getD (Int.toNat t23) (0, (true, []))).1)) then
 some (.inl false)
else 
(spec_l2Kind p.1 p.2.1 ((t21.2.getD (Int.toNat t23) (0, (true, []))).2)).bind fun r1 =>
 bif (r1 != 1) then
 some (.inl false)
else 
(spec_l7Command_L0 p c t21 t22 (IntKind.i64.wrap (t23 + 1))).bind fun r => some r
else none
else none
else 
(spec_l2Kind p.1 p.2.1 ((t21.2.getD (Int.toNat t23) (0, (true, []))).2)).bind fun r2 =>
 bif (r2 != 1) then
 some (.inl false)
else 
(spec_l7Command_L0 p c t21 t22 (IntKind.i64.wrap (t23 + 1))).bind fun r => some r
else none
else none
else 
 some (.inr ()) := Eq.trans (inf_loop_eq (H := H) 170 0 (loopCode Try.f170 0) (p, (c, (t21, (t22, t23)))) key_spec_l7Command) (by kernel_rfl)
theorem spec_l7Command_eq (p : DProgram) (c : DCommand) : spec_l7Command p c =
(spec_l7Asks p c.1).bind fun r =>
 bif !r then
 some false
else 
 bif decide ((c.2.2.length : Int) > p.2.1) then
 some false
else 
(spec_l7Command_L0 p c c.2 (c.2.2.length : Int) 0).bind fun r1 =>
 match r1 with
| .inl y =>
 some y
| .inr z =>
 some true := Eq.trans (inf_call_eq (H := H) 170 (p, c)) (by kernel_rfl)
theorem spec_GoodProgram_L0_eq (p : DProgram) (t18 : Bool × List DCommand) (t19 : Int) (t20 : Int) : spec_GoodProgram_L0 p t18 t19 t20 =
 bif decide (t20 < t19) then
 bif decide (0 ≤ t20) then
 bif decide (t20 < (t18.2.length : Int)) then
(spec_l7Command p (t18.2.getD (Int.toNat t20) ((true, []), (true, [])))).bind fun r =>
 bif !r then
 some (.inl false)
else 
(spec_GoodProgram_L0 p t18 t19 (IntKind.i64.wrap (t20 + 1))).bind fun r => some r
else none
else none
else 
 some (.inr ()) := Eq.trans (inf_loop_eq (H := H) 129 0 (loopCode Try.f129 0) (p, (t18, (t19, t20))) key_spec_GoodProgram) (by kernel_rfl)
theorem spec_GoodProgram_eq (p : DProgram) : spec_GoodProgram p =
(spec_l7Asks p p.2.2.1).bind fun r =>
 bif !r then
 some false
else 
(spec_l1In (p.2.2.2.2.length : Int) 1 6).bind fun r1 =>
 bif !r1 then
 some false
else 
(spec_GoodProgram_L0 p p.2.2.2 (p.2.2.2.2.length : Int) 0).bind fun r2 =>
 match r2 with
| .inl y =>
 some y
| .inr z =>
 some true := Eq.trans (inf_call_eq (H := H) 129 p) (by kernel_rfl)
theorem spec_l7Small_eq (p : DProgram) : spec_l7Small p =
(spec_GoodProgram p).bind fun r =>
 bif r then
 some (decide ((IntKind.i64.wrap (p.1 * p.2.1)) ≤ 5))
else 
 some false := Eq.trans (inf_call_eq (H := H) 69 p) (by kernel_rfl)
theorem spec_l15Preds_L0_eq (p : DProgram) (t10 : Bool × List (Bool × List DNode)) (t11 : Int) (t12 : Int) : spec_l15Preds_L0 p t10 t11 t12 =
 bif decide (t12 < t11) then
 bif decide (0 ≤ t12) then
 bif decide (t12 < (t10.2.length : Int)) then
(spec_l7Asks p (t10.2.getD (Int.toNat t12) (true, []))).bind fun r =>
 bif !r then
 some (.inl false)
else 
(spec_l15Preds_L0 p t10 t11 (IntKind.i64.wrap (t12 + 1))).bind fun r => some r
else none
else none
else 
 some (.inr ()) := Eq.trans (inf_loop_eq (H := H) 112 0 (loopCode Try.f112 0) (p, (t10, (t11, t12))) key_spec_l15Preds) (by kernel_rfl)
theorem spec_l15Preds_eq (p : DProgram) (preds : Bool × List (Bool × List DNode)) : spec_l15Preds p preds =
 bif decide ((preds.2.length : Int) > 8) then
 some false
else 
(spec_l15Preds_L0 p preds (preds.2.length : Int) 0).bind fun r =>
 match r with
| .inl y =>
 some y
| .inr z =>
 some true := Eq.trans (inf_call_eq (H := H) 112 (p, preds)) (by kernel_rfl)
theorem spec_l20Same_L0_eq (a : Bool × List DNode) (b : Bool × List DNode) (t12 : Int) (t13 : Int) : spec_l20Same_L0 a b t12 t13 =
 bif decide (t13 < t12) then
 bif decide (0 ≤ t13) then
 bif decide (t13 < (a.2.length : Int)) then
 bif decide (0 ≤ t13) then
 bif decide (t13 < (b.2.length : Int)) then
 bif !((((a.2.getD (Int.toNat t13) (0, 0)).1) == ((b.2.getD (Int.toNat t13) (0, 0)).1)) && (((a.2.getD (Int.toNat t13) (0, 0)).2) == ((b.2.getD (Int.toNat t13) (0, 0)).2))) then
 some (.inl false)
else 
(spec_l20Same_L0 a b t12 (IntKind.i64.wrap (t13 + 1))).bind fun r => some r
else none
else none
else none
else none
else 
 some (.inr ()) := Eq.trans (inf_loop_eq (H := H) 189 0 (loopCode Try.f189 0) (a, (b, (t12, t13))) key_spec_l20Same) (by kernel_rfl)
theorem spec_l20Same_eq (a : Bool × List DNode) (b : Bool × List DNode) : spec_l20Same a b =
 bif ((a.2.length : Int) != (b.2.length : Int)) then
 some false
else 
(spec_l20Same_L0 a b (a.2.length : Int) 0).bind fun r =>
 match r with
| .inl y =>
 some y
| .inr z =>
 some true := Eq.trans (inf_call_eq (H := H) 189 (a, b)) (by kernel_rfl)
theorem spec_l20Add_L0_eq (l : Bool × List (Bool × List DNode)) (t : Bool × List DNode) (t8 : Int) (t9 : Int) : spec_l20Add_L0 l t t8 t9 =
 bif decide (t9 < t8) then
 bif decide (0 ≤ t9) then
 bif decide (t9 < (l.2.length : Int)) then
(spec_l20Same ((l.2.getD (Int.toNat t9) (true, [])).1, (l.2.getD (Int.toNat t9) (true, [])).2) t).bind fun r =>
 bif r then
 some (.inl (l.1, (l.2.set (Int.toNat t9) ((l.2.getD (Int.toNat t9) (true, [])).1, (l.2.getD (Int.toNat t9) (true, [])).2))))
else 
(spec_l20Add_L0 (l.1, (l.2.set (Int.toNat t9) ((l.2.getD (Int.toNat t9) (true, [])).1, (l.2.getD (Int.toNat t9) (true, [])).2))) t t8 (IntKind.i64.wrap (t9 + 1))).bind fun r => some r
else none
else none
else 
 some (.inr (l.1, l.2)) := Eq.trans (inf_loop_eq (H := H) 154 0 (loopCode Try.f154 0) (l, (t, (t8, t9))) key_spec_l20Add) (by kernel_rfl)
theorem spec_l20Add_eq (l : Bool × List (Bool × List DNode)) (t : Bool × List DNode) : spec_l20Add l t =
(spec_l20Add_L0 (l.1, l.2) t (l.2.length : Int) 0).bind fun r =>
 match r with
| .inl y =>
 some (y.1, y.2)
| .inr z =>
 bif ((z.2.length : Int) == 40) then
 some (z.1, z.2)
else 
 bif decide (([] : List DNode).length + t.2.length ≤ lim) then
 bif decide (z.2.length + [(false, ([] ++ t.2))].length ≤ lim) then
 some ((z.1 && false), (z.2 ++ [(false, ([] ++ t.2))]))
else none
else none := Eq.trans (inf_call_eq (H := H) 154 (l, t)) (by kernel_rfl)
theorem spec_GoodTerm_eq (wide : Int) (vars : Int) (t : Bool × List DNode) : spec_GoodTerm wide vars t =
(spec_l2Kind wide vars t).bind fun r =>
 some (decide (r > 0)) := Eq.trans (inf_call_eq (H := H) 187 (wide, (vars, t))) (by kernel_rfl)
theorem spec_l2Made_eq (wide : Int) (vars : Int) (t : Bool × List DNode) : spec_l2Made wide vars t =
(spec_GoodTerm wide vars t).bind fun r =>
 bif !r then
 some ((true, []), false)
else 
 some (t, true) := Eq.trans (inf_call_eq (H := H) 150 (wide, (vars, t))) (by kernel_rfl)
theorem spec_PutAll_L0_eq (wide : Int) (vars : Int) (t : Bool × List DNode) (by_ : Bool × List (Bool × List DNode)) (t26 : Bool × List (Bool × List DNode)) (t27 : Int) (t28 : Int) : spec_PutAll_L0 wide vars t by_ t26 t27 t28 =
 bif decide (t28 < t27) then
 bif decide (0 ≤ t28) then
 bif decide (t28 < (t26.2.length : Int)) then
(spec_l2Kind wide vars (t26.2.getD (Int.toNat t28) (true, []))).bind fun r =>
 bif (r != 1) then
 some (.inl false)
else 
(spec_PutAll_L0 wide vars t by_ t26 t27 (IntKind.i64.wrap (t28 + 1))).bind fun r => some r
else none
else none
else 
 some (.inr ()) := Eq.trans (inf_loop_eq (H := H) 186 0 (loopCode Try.f186 0) (wide, (vars, (t, (by_, (t26, (t27, t28)))))) key_spec_PutAll) (by kernel_rfl)
theorem spec_PutAll_L2_eq (wide : Int) (vars : Int) (by_ : Bool × List (Bool × List DNode)) (out : Bool × List DNode) (t38 : Bool × List DNode) (t39 : Int) (t40 : Int) : spec_PutAll_L2 wide vars by_ out t38 t39 t40 =
 bif decide (t40 < t39) then
 bif decide (0 ≤ t40) then
 bif decide (t40 < (t38.2.length : Int)) then
 bif (((t38.2.getD (Int.toNat t40) (0, 0)).1) == 2) then
 bif decide (0 ≤ ((t38.2.getD (Int.toNat t40) (0, 0)).2)) then
 bif decide (((t38.2.getD (Int.toNat t40) (0, 0)).2) < (by_.2.length : Int)) then
 bif decide (out.2.length + ((by_.2.getD (Int.toNat ((t38.2.getD (Int.toNat t40) (0, 0)).2)) (true, [])).2).length ≤ lim) then
(spec_PutAll_L2 wide vars by_ ((out.1 && ((by_.2.getD (Int.toNat ((t38.2.getD (Int.toNat t40) (0, 0)).2)) (true, [])).2).isEmpty), (out.2 ++ ((by_.2.getD (Int.toNat ((t38.2.getD (Int.toNat t40) (0, 0)).2)) (true, [])).2))) t38 t39 (IntKind.i64.wrap (t40 + 1))).bind fun r => some r
else none
else none
else none
else 
 bif decide (out.2.length + [(t38.2.getD (Int.toNat t40) (0, 0))].length ≤ lim) then
(spec_PutAll_L2 wide vars by_ ((out.1 && false), (out.2 ++ [(t38.2.getD (Int.toNat t40) (0, 0))])) t38 t39 (IntKind.i64.wrap (t40 + 1))).bind fun r => some r
else none
else none
else none
else 
 some (out.1, out.2) := Eq.trans (inf_loop_eq (H := H) 186 2 (loopCode Try.f186 2) (wide, (vars, (by_, (out, (t38, (t39, t40)))))) key_spec_PutAll) (by kernel_rfl)
theorem spec_PutAll_eq (wide : Int) (vars : Int) (t : Bool × List DNode) (by_ : Bool × List (Bool × List DNode)) : spec_PutAll wide vars t by_ =
(spec_GoodTerm wide vars t).bind fun r =>
 bif !r then
 some ((true, []), false)
else 
 bif ((by_.2.length : Int) != vars) then
 some ((true, []), false)
else 
(spec_PutAll_L0 wide vars t by_ by_ (by_.2.length : Int) 0).bind fun r1 =>
 match r1 with
| .inl y =>
 some ((true, []), y)
| .inr z =>
(spec_PutAll_L2 wide vars by_ (true, []) t (t.2.length : Int) 0).bind fun r2 =>
(spec_l2Made wide vars (r2.1, r2.2)).bind fun r3 =>
 some (r3.1, r3.2) := Eq.trans (inf_call_eq (H := H) 186 (wide, (vars, (t, by_)))) (by kernel_rfl)
theorem spec_l16One_L0_eq (k_ : Int) (t : Bool × List DNode) (p : DProgram) (by_ : Bool × List (Bool × List DNode)) (v : Int) : spec_l16One_L0 k_ t p by_ v =
 bif decide (v < p.2.1) then
 bif decide (by_.2.length + [(false, [(2, IntKind.u64.wrap v)])].length ≤ lim) then
(spec_l16One_L0 k_ t p ((by_.1 && false), (by_.2 ++ [(false, [(2, IntKind.u64.wrap v)])])) (IntKind.i64.wrap (v + 1))).bind fun r => some r
else none
else 
 some (by_.1, by_.2) := Eq.trans (inf_loop_eq (H := H) 149 0 (loopCode Try.f149 0) (k_, (t, (p, (by_, v)))) key_spec_l16One) (by kernel_rfl)
theorem spec_l16One_L2_eq (t : Bool × List DNode) (p : DProgram) (by_ : Bool × List (Bool × List DNode)) (t30 : Bool × List DChange) (t31 : Int) (t32 : Int) : spec_l16One_L2 t p by_ t30 t31 t32 =
 bif decide (t32 < t31) then
 bif decide (0 ≤ t32) then
 bif decide (t32 < (t30.2.length : Int)) then
 bif decide (0 ≤ ((t30.2.getD (Int.toNat t32) (0, (true, []))).1)) then
 bif decide (((t30.2.getD (Int.toNat t32) (0, (true, []))).1) < (by_.2.length : Int)) then
(spec_l16One_L2 t p (by_.1, (by_.2.set (Int.toNat ((t30.2.getD (Int.toNat t32) (0, (true, []))).1)) ((t30.2.getD (Int.toNat t32) (0, (true, []))).2))) t30 t31 (IntKind.i64.wrap (t32 + 1))).bind fun r => some r
else none
else none
else none
else none
else 
 some (by_.1, by_.2) := Eq.trans (inf_loop_eq (H := H) 149 2 (loopCode Try.f149 2) (t, (p, (by_, (t30, (t31, t32))))) key_spec_l16One) (by kernel_rfl)
theorem spec_l16One_eq (p : DProgram) (k_ : Int) (t : Bool × List DNode) : spec_l16One p k_ t =
(spec_l16One_L0 k_ t p (true, []) 0).bind fun r =>
 bif decide (0 ≤ k_) then
 bif decide (k_ < (p.2.2.2.2.length : Int)) then
(spec_l16One_L2 t p (r.1, r.2) ((p.2.2.2.2.getD (Int.toNat k_) ((true, []), (true, []))).2) ((((p.2.2.2.2.getD (Int.toNat k_) ((true, []), (true, []))).2).2).length : Int) 0).bind fun r1 =>
(spec_PutAll p.1 p.2.1 t (r1.1, r1.2)).bind fun r2 =>
 some (r2.1, r2.2)
else none
else none := Eq.trans (inf_call_eq (H := H) 149 (p, (k_, t))) (by kernel_rfl)
theorem spec_l20Terms_L0_eq (preds : Bool × List (Bool × List DNode)) (p : DProgram) (out : Bool × List (Bool × List DNode)) (t14 : Bool × List DCommand) (t15 : Int) (t16 : Int) : spec_l20Terms_L0 preds p out t14 t15 t16 =
 bif decide (t16 < t15) then
 bif decide (0 ≤ t16) then
 bif decide (t16 < (t14.2.length : Int)) then
(spec_l20Add (out.1, out.2) ((t14.2.getD (Int.toNat t16) ((true, []), (true, []))).1)).bind fun r =>
(spec_l20Terms_L0 preds p (r.1, r.2) t14 t15 (IntKind.i64.wrap (t16 + 1))).bind fun r => some r
else none
else none
else 
 some (out.1, out.2) := Eq.trans (inf_loop_eq (H := H) 113 0 (loopCode Try.f113 0) (preds, (p, (out, (t14, (t15, t16))))) key_spec_l20Terms) (by kernel_rfl)
theorem spec_l20Terms_L2_eq (p : DProgram) (out : Bool × List (Bool × List DNode)) (t25 : Bool × List (Bool × List DNode)) (t26 : Int) (t27 : Int) : spec_l20Terms_L2 p out t25 t26 t27 =
 bif decide (t27 < t26) then
 bif decide (0 ≤ t27) then
 bif decide (t27 < (t25.2.length : Int)) then
(spec_l20Terms_L4 p (out.1, out.2) (t25.2.getD (Int.toNat t27) (true, [])) t25 t26 t27 (p.2.2.2.2.length : Int) 0).bind fun r =>
(spec_l20Terms_L2 p (r.1, r.2) t25 t26 (IntKind.i64.wrap (t27 + 1))).bind fun r => some r
else none
else none
else 
 some (out.1, out.2) := Eq.trans (inf_loop_eq (H := H) 113 2 (loopCode Try.f113 2) (p, (out, (t25, (t26, t27)))) key_spec_l20Terms) (by kernel_rfl)
theorem spec_l20Terms_L4_eq (p : DProgram) (out : Bool × List (Bool × List DNode)) (t : Bool × List DNode) (t25 : Bool × List (Bool × List DNode)) (t26 : Int) (t27 : Int) (t33 : Int) (t34 : Int) : spec_l20Terms_L4 p out t t25 t26 t27 t33 t34 =
 bif decide (t34 < t33) then
(spec_l16One p t34 t).bind fun r =>
 bif r.2 then
(spec_l20Add (out.1, out.2) r.1).bind fun r1 =>
(spec_l20Terms_L4 p (r1.1, r1.2) t t25 t26 t27 t33 (IntKind.i64.wrap (t34 + 1))).bind fun r => some r
else 
(spec_l20Terms_L4 p (out.1, out.2) t t25 t26 t27 t33 (IntKind.i64.wrap (t34 + 1))).bind fun r => some r
else 
 some (out.1, out.2) := Eq.trans (inf_loop_eq (H := H) 113 4 (loopCode Try.f113 4) (p, (out, (t, (t25, (t26, (t27, (t33, t34))))))) key_spec_l20Terms) (by kernel_rfl)
theorem spec_l20Terms_eq (p : DProgram) (preds : Bool × List (Bool × List DNode)) : spec_l20Terms p preds =
(spec_l20Terms_L0 preds p (true, []) p.2.2.2 (p.2.2.2.2.length : Int) 0).bind fun r =>
(spec_l20Terms_L2 p (r.1, r.2) preds (preds.2.length : Int) 0).bind fun r1 =>
 some (r1.1, r1.2) := Eq.trans (inf_call_eq (H := H) 113 (p, preds)) (by kernel_rfl)
theorem spec_TryTerms_eq (p : DProgram) (preds : Bool × List (Bool × List DNode)) : spec_TryTerms p preds =
(spec_l7Small p).bind fun r =>
 bif !r then
 some ((true, []), false)
else 
(spec_l15Preds p preds).bind fun r1 =>
 bif !r1 then
 some ((true, []), false)
else 
(spec_l20Terms p preds).bind fun r2 =>
 some ((r2.1, r2.2), true) := Eq.trans (inf_call_eq (H := H) 51 (p, preds)) (by kernel_rfl)
theorem impl_isWide_eq (n : Int) : impl_isWide n =
 bif decide (n ≥ 1) then
 some (decide (n ≤ 64))
else 
 some false := Eq.trans (inf_call_eq (H := H) 177 n) (by kernel_rfl)
theorem impl_isVars_eq (n : Int) : impl_isVars n =
 bif decide (n ≥ 1) then
 some (decide (n ≤ 4))
else 
 some false := Eq.trans (inf_call_eq (H := H) 178 n) (by kernel_rfl)
theorem impl_operandsOf_eq (op : Int) : impl_operandsOf op =
 bif (op == 1) then
 some (0, (0, 1))
else 
 bif (op == 2) then
 some (0, (0, 1))
else 
 bif (op == 20) then
 some (0, (0, 2))
else 
 bif (op == 13) then
 some (1, (1, 1))
else 
 bif (op == 19) then
 some (1, (2, 2))
else 
 bif decide (op ≥ 3) then
 bif decide (op ≤ 12) then
 some (2, (1, 1))
else 
 bif decide (op ≥ 14) then
 bif decide (op ≤ 16) then
 some (2, (1, 2))
else 
 bif (op == 17) then
 some (2, (2, 2))
else 
 bif (op == 18) then
 some (2, (2, 2))
else 
 some (0, (0, 0))
else 
 bif (op == 17) then
 some (2, (2, 2))
else 
 bif (op == 18) then
 some (2, (2, 2))
else 
 some (0, (0, 0))
else 
 bif decide (op ≥ 14) then
 bif decide (op ≤ 16) then
 some (2, (1, 2))
else 
 bif (op == 17) then
 some (2, (2, 2))
else 
 bif (op == 18) then
 some (2, (2, 2))
else 
 some (0, (0, 0))
else 
 bif (op == 17) then
 some (2, (2, 2))
else 
 bif (op == 18) then
 some (2, (2, 2))
else 
 some (0, (0, 0)) := Eq.trans (inf_call_eq (H := H) 212 op) (by kernel_rfl)
theorem impl_mask_eq (wide : Int) : impl_mask wide =
 bif decide ((IntKind.i64.wrap (64 - wide)) < 0) then
 none
else 
 some (bShr .u64 18446744073709551615 (IntKind.i64.wrap (64 - wide))) := Eq.trans (inf_call_eq (H := H) 143 wide) (by kernel_rfl)
theorem impl_GoodWord_eq (wide : Int) (a : Int) : impl_GoodWord wide a =
(impl_isWide wide).bind fun r =>
 bif r then
(impl_mask wide).bind fun r1 =>
 some (decide (a ≤ r1))
else 
 some false := Eq.trans (inf_call_eq (H := H) 226 (wide, a)) (by kernel_rfl)
theorem impl_isLeafRight_eq (wide : Int) (vars : Int) (x : DNode) : impl_isLeafRight wide vars x =
 bif (x.1 == 1) then
(impl_GoodWord wide x.2).bind fun r =>
 some r
else 
 bif (x.1 == 2) then
 some (decide (x.2 < (IntKind.u64.wrap vars)))
else 
 bif (x.1 == 20) then
 some (decide (x.2 ≤ 1))
else 
 some (x.2 == 0) := Eq.trans (inf_call_eq (H := H) 213 (wide, (vars, x))) (by kernel_rfl)
theorem impl_GoodTerm_1_eq (own : Int) (a1 : Int) : impl_GoodTerm_1 own a1 =
 some (own != a1) := Eq.trans (inf_call_eq (H := H) 214 (own, a1)) (by kernel_rfl)
theorem slices_IndexFunc_int_by_GoodTerm_1_L0_eq (s : Bool × List Int) (f : Int × Unit) (t7 : Int) (t8 : Int) : slices_IndexFunc_int_by_GoodTerm_1_L0 s f t7 t8 =
 bif decide (t8 < t7) then
 bif decide (0 ≤ t8) then
 bif decide (t8 < (s.2.length : Int)) then
(impl_GoodTerm_1 (s.2.getD (Int.toNat t8) 0) f.1).bind fun r =>
 bif r then
 some (.inl t8)
else 
(slices_IndexFunc_int_by_GoodTerm_1_L0 s f t7 (IntKind.i64.wrap (t8 + 1))).bind fun r => some r
else none
else none
else 
 some (.inr ()) := Eq.trans (inf_loop_eq (H := H) 141 0 (loopCode Try.f141 0) (s, (f, (t7, t8))) key_slices_IndexFunc_int_by_GoodTerm_1) (by kernel_rfl)
theorem slices_IndexFunc_int_by_GoodTerm_1_eq (s : Bool × List Int) (f : Int × Unit) : slices_IndexFunc_int_by_GoodTerm_1 s f =
(slices_IndexFunc_int_by_GoodTerm_1_L0 s f (s.2.length : Int) 0).bind fun r =>
 match r with
| .inl y =>
 some y
| .inr z =>
 some (-1) := Eq.trans (inf_call_eq (H := H) 141 (s, f)) (by kernel_rfl)
theorem slices_ContainsFunc_int_by_GoodTerm_1_eq (s : Bool × List Int) (f : Int × Unit) : slices_ContainsFunc_int_by_GoodTerm_1 s f =
(slices_IndexFunc_int_by_GoodTerm_1 s f).bind fun r =>
 some (decide (r ≥ 0)) := Eq.trans (inf_call_eq (H := H) 88 (s, f)) (by kernel_rfl)
theorem impl_GoodTerm_L0_eq (wide : Int) (vars : Int) (stack : Bool × List Int) (t33 : Bool × List DNode) (t34 : Int) (t35 : Int) : impl_GoodTerm_L0 wide vars stack t33 t34 t35 =
 bif decide (t35 < t34) then
 bif decide (0 ≤ t35) then
 bif decide (t35 < (t33.2.length : Int)) then
(impl_operandsOf ((t33.2.getD (Int.toNat t35) (0, 0)).1)).bind fun r =>
 bif (r.2.2 == 0) then
 some (.inl false)
else 
(impl_isLeafRight wide vars (t33.2.getD (Int.toNat t35) (0, 0))).bind fun r1 =>
 bif !r1 then
 some (.inl false)
else 
 bif decide ((IntKind.i64.wrap ((stack.2.length : Int) - r.1)) < 0) then
 some (.inl false)
else 
 bif decide (0 ≤ (IntKind.i64.wrap ((stack.2.length : Int) - r.1))) then
 bif decide ((IntKind.i64.wrap ((stack.2.length : Int) - r.1)) ≤ (stack.2.length : Int)) then
(slices_ContainsFunc_int_by_GoodTerm_1 (stack.1, ((stack.2.take stack.2.length).drop (Int.toNat (IntKind.i64.wrap ((stack.2.length : Int) - r.1))))) (r.2.1, ())).bind fun r2 =>
 bif r2 then
 some (.inl false)
else 
 bif decide (0 ≤ (IntKind.i64.wrap ((stack.2.length : Int) - r.1))) then
 bif decide ((IntKind.i64.wrap ((stack.2.length : Int) - r.1)) ≤ (stack.2.length : Int)) then
 bif decide (((stack.2.take (Int.toNat (IntKind.i64.wrap ((stack.2.length : Int) - r.1)))).drop 0).length + [r.2.2].length ≤ lim) then
(impl_GoodTerm_L0 wide vars ((stack.1 && false), (((stack.2.take (Int.toNat (IntKind.i64.wrap ((stack.2.length : Int) - r.1)))).drop 0) ++ [r.2.2])) t33 t34 (IntKind.i64.wrap (t35 + 1))).bind fun r => some r
else none
else none
else none
else none
else none
else none
else none
else 
 some (.inr (stack.1, stack.2)) := Eq.trans (inf_loop_eq (H := H) 182 0 (loopCode Try.f182 0) (wide, (vars, (stack, (t33, (t34, t35))))) key_impl_GoodTerm) (by kernel_rfl)
theorem impl_GoodTerm_eq (wide : Int) (vars : Int) (t : Bool × List DNode) : impl_GoodTerm wide vars t =
(impl_isWide wide).bind fun r =>
 bif !r then
 some false
else 
(impl_isVars vars).bind fun r1 =>
 bif !r1 then
 some false
else 
 bif decide ((t.2.length : Int) < 1) then
 some false
else 
 bif decide ((t.2.length : Int) > 48) then
 some false
else 
(impl_GoodTerm_L0 wide vars (false, []) t (t.2.length : Int) 0).bind fun r2 =>
 match r2 with
| .inl y =>
 some y
| .inr z =>
 some ((z.2.length : Int) == 1) := Eq.trans (inf_call_eq (H := H) 182 (wide, (vars, t))) (by kernel_rfl)
theorem impl_kindOf_eq (t : Bool × List DNode) : impl_kindOf t =
 bif decide (0 ≤ (IntKind.i64.wrap ((t.2.length : Int) - 1))) then
 bif decide ((IntKind.i64.wrap ((t.2.length : Int) - 1)) < (t.2.length : Int)) then
(impl_operandsOf ((t.2.getD (Int.toNat (IntKind.i64.wrap ((t.2.length : Int) - 1))) (0, 0)).1)).bind fun r =>
 some r.2.2
else none
else none := Eq.trans (inf_call_eq (H := H) 183 t) (by kernel_rfl)
theorem impl_isTermOf_eq (wide : Int) (vars : Int) (t : Bool × List DNode) (kind : Int) : impl_isTermOf wide vars t kind =
(impl_GoodTerm wide vars t).bind fun r =>
 bif r then
(impl_kindOf t).bind fun r1 =>
 some (r1 == kind)
else 
 some false := Eq.trans (inf_call_eq (H := H) 140 (wide, (vars, (t, kind)))) (by kernel_rfl)
theorem impl_Program_isCondition_eq (p : DProgram) (t : Bool × List DNode) : impl_Program_isCondition p t =
(impl_isTermOf p.1 p.2.1 t 2).bind fun r =>
 some r := Eq.trans (inf_call_eq (H := H) 87 (p, t)) (by kernel_rfl)
theorem impl_Program_isCommand_L0_eq (p : DProgram) (c : DCommand) (t13 : Bool × List DChange) (t14 : Int) (t15 : Int) : impl_Program_isCommand_L0 p c t13 t14 t15 =
 bif decide (t15 < t14) then
 bif decide (0 ≤ t15) then
 bif decide (t15 < (t13.2.length : Int)) then
 bif decide (((t13.2.getD (Int.toNat t15) (0, (true, []))).1) < 0) then
 some (.inl false)
else 
 bif decide (((t13.2.getD (Int.toNat t15) (0, (true, []))).1) ≥ p.2.1) then
 some (.inl false)
else 
 bif decide (t15 > 0) then
 bif decide (0 ≤ (IntKind.i64.wrap (t15 - 1))) then
 bif decide ((IntKind.i64.wrap (t15 - 1)) < (c.2.2.length : Int)) then
 bif decide (((c.2.2.getD (Int.toNat (IntKind.i64.wrap (t15 - 1))) (0, (true, []))).1) ≥ ((t13.2.getD (Int.toNat t15) (0, (true, []))).1)) then
 some (.inl false)
else 
(impl_isTermOf p.1 p.2.1 ((t13.2.getD (Int.toNat t15) (0, (true, []))).2) 1).bind fun r =>
 bif !r then
 some (.inl false)
else 
(impl_Program_isCommand_L0 p c t13 t14 (IntKind.i64.wrap (t15 + 1))).bind fun r => some r
else none
else none
else 
(impl_isTermOf p.1 p.2.1 ((t13.2.getD (Int.toNat t15) (0, (true, []))).2) 1).bind fun r1 =>
 bif !r1 then
 some (.inl false)
else 
(impl_Program_isCommand_L0 p c t13 t14 (IntKind.i64.wrap (t15 + 1))).bind fun r => some r
else none
else none
else 
 some (.inr ()) := Eq.trans (inf_loop_eq (H := H) 181 0 (loopCode Try.f181 0) (p, (c, (t13, (t14, t15)))) key_impl_Program_isCommand) (by kernel_rfl)
theorem impl_Program_isCommand_eq (p : DProgram) (c : DCommand) : impl_Program_isCommand p c =
(impl_Program_isCondition p c.1).bind fun r =>
 bif !r then
 some false
else 
(impl_Program_isCommand_L0 p c c.2 (c.2.2.length : Int) 0).bind fun r1 =>
 match r1 with
| .inl y =>
 some y
| .inr z =>
 some true := Eq.trans (inf_call_eq (H := H) 181 (p, c)) (by kernel_rfl)
theorem impl_GoodProgram_1_eq (c : DCommand) (a1 : DProgram) : impl_GoodProgram_1 c a1 =
(impl_Program_isCommand a1 c).bind fun r =>
 some (!r) := Eq.trans (inf_call_eq (H := H) 180 (c, a1)) (by kernel_rfl)
theorem slices_IndexFunc_Command_by_GoodProgram_1_L0_eq (s : Bool × List DCommand) (f : DProgram × Unit) (t7 : Int) (t8 : Int) : slices_IndexFunc_Command_by_GoodProgram_1_L0 s f t7 t8 =
 bif decide (t8 < t7) then
 bif decide (0 ≤ t8) then
 bif decide (t8 < (s.2.length : Int)) then
(impl_GoodProgram_1 (s.2.getD (Int.toNat t8) ((true, []), (true, []))) f.1).bind fun r =>
 bif r then
 some (.inl t8)
else 
(slices_IndexFunc_Command_by_GoodProgram_1_L0 s f t7 (IntKind.i64.wrap (t8 + 1))).bind fun r => some r
else none
else none
else 
 some (.inr ()) := Eq.trans (inf_loop_eq (H := H) 211 0 (loopCode Try.f211 0) (s, (f, (t7, t8))) key_slices_IndexFunc_Command_by_GoodProgram_1) (by kernel_rfl)
theorem slices_IndexFunc_Command_by_GoodProgram_1_eq (s : Bool × List DCommand) (f : DProgram × Unit) : slices_IndexFunc_Command_by_GoodProgram_1 s f =
(slices_IndexFunc_Command_by_GoodProgram_1_L0 s f (s.2.length : Int) 0).bind fun r =>
 match r with
| .inl y =>
 some y
| .inr z =>
 some (-1) := Eq.trans (inf_call_eq (H := H) 211 (s, f)) (by kernel_rfl)
theorem slices_ContainsFunc_Command_by_GoodProgram_1_eq (s : Bool × List DCommand) (f : DProgram × Unit) : slices_ContainsFunc_Command_by_GoodProgram_1 s f =
(slices_IndexFunc_Command_by_GoodProgram_1 s f).bind fun r =>
 some (decide (r ≥ 0)) := Eq.trans (inf_call_eq (H := H) 179 (s, f)) (by kernel_rfl)
theorem impl_GoodProgram_eq (p : DProgram) : impl_GoodProgram p =
(impl_isWide p.1).bind fun r =>
 bif !r then
 some false
else 
(impl_isVars p.2.1).bind fun r1 =>
 bif !r1 then
 some false
else 
(impl_Program_isCondition p p.2.2.1).bind fun r2 =>
 bif !r2 then
 some false
else 
 bif decide ((p.2.2.2.2.length : Int) < 1) then
 some false
else 
 bif decide ((p.2.2.2.2.length : Int) > 6) then
 some false
else 
(slices_ContainsFunc_Command_by_GoodProgram_1 p.2.2.2 (p, ())).bind fun r3 =>
 some (!r3) := Eq.trans (inf_call_eq (H := H) 139 p) (by kernel_rfl)
theorem impl_isSmall_eq (p : DProgram) : impl_isSmall p =
(impl_GoodProgram p).bind fun r =>
 bif r then
 some (decide ((IntKind.i64.wrap (p.1 * p.2.1)) ≤ 5))
else 
 some false := Eq.trans (inf_call_eq (H := H) 84 p) (by kernel_rfl)
theorem impl_Program_arePreds_1_eq (t : Bool × List DNode) (a1 : DProgram) : impl_Program_arePreds_1 t a1 =
(impl_Program_isCondition a1 t).bind fun r =>
 some (!r) := Eq.trans (inf_call_eq (H := H) 156 (t, a1)) (by kernel_rfl)
theorem slices_IndexFunc_Node_by_Program_arePreds_1_L0_eq (s : Bool × List (Bool × List DNode)) (f : DProgram × Unit) (t7 : Int) (t8 : Int) : slices_IndexFunc_Node_by_Program_arePreds_1_L0 s f t7 t8 =
 bif decide (t8 < t7) then
 bif decide (0 ≤ t8) then
 bif decide (t8 < (s.2.length : Int)) then
(impl_Program_arePreds_1 (s.2.getD (Int.toNat t8) (true, [])) f.1).bind fun r =>
 bif r then
 some (.inl t8)
else 
(slices_IndexFunc_Node_by_Program_arePreds_1_L0 s f t7 (IntKind.i64.wrap (t8 + 1))).bind fun r => some r
else none
else none
else 
 some (.inr ()) := Eq.trans (inf_loop_eq (H := H) 190 0 (loopCode Try.f190 0) (s, (f, (t7, t8))) key_slices_IndexFunc_Node_by_Program_arePreds_1) (by kernel_rfl)
theorem slices_IndexFunc_Node_by_Program_arePreds_1_eq (s : Bool × List (Bool × List DNode)) (f : DProgram × Unit) : slices_IndexFunc_Node_by_Program_arePreds_1 s f =
(slices_IndexFunc_Node_by_Program_arePreds_1_L0 s f (s.2.length : Int) 0).bind fun r =>
 match r with
| .inl y =>
 some y
| .inr z =>
 some (-1) := Eq.trans (inf_call_eq (H := H) 190 (s, f)) (by kernel_rfl)
theorem slices_ContainsFunc_Node_by_Program_arePreds_1_eq (s : Bool × List (Bool × List DNode)) (f : DProgram × Unit) : slices_ContainsFunc_Node_by_Program_arePreds_1 s f =
(slices_IndexFunc_Node_by_Program_arePreds_1 s f).bind fun r =>
 some (decide (r ≥ 0)) := Eq.trans (inf_call_eq (H := H) 155 (s, f)) (by kernel_rfl)
theorem impl_Program_arePreds_eq (p : DProgram) (preds : Bool × List (Bool × List DNode)) (least : Int) : impl_Program_arePreds p preds least =
 bif decide ((preds.2.length : Int) ≥ least) then
 bif decide ((preds.2.length : Int) ≤ 8) then
(slices_ContainsFunc_Node_by_Program_arePreds_1 preds (p, ())).bind fun r =>
 some (!r)
else 
 some false
else 
 some false := Eq.trans (inf_call_eq (H := H) 114 (p, (preds, least))) (by kernel_rfl)
theorem slices_Equal_Node_L0_eq (s1 : Bool × List DNode) (s2 : Bool × List DNode) (t12 : Int) (t13 : Int) : slices_Equal_Node_L0 s1 s2 t12 t13 =
 bif decide (t13 < t12) then
 bif decide (0 ≤ t13) then
 bif decide (t13 < (s1.2.length : Int)) then
 bif decide (0 ≤ t13) then
 bif decide (t13 < (s2.2.length : Int)) then
 bif !((((s1.2.getD (Int.toNat t13) (0, 0)).1) == ((s2.2.getD (Int.toNat t13) (0, 0)).1)) && (((s1.2.getD (Int.toNat t13) (0, 0)).2) == ((s2.2.getD (Int.toNat t13) (0, 0)).2))) then
 some (.inl false)
else 
(slices_Equal_Node_L0 s1 s2 t12 (IntKind.i64.wrap (t13 + 1))).bind fun r => some r
else none
else none
else none
else none
else 
 some (.inr ()) := Eq.trans (inf_loop_eq (H := H) 159 0 (loopCode Try.f159 0) (s1, (s2, (t12, t13))) key_slices_Equal_Node) (by kernel_rfl)
theorem slices_Equal_Node_eq (s1 : Bool × List DNode) (s2 : Bool × List DNode) : slices_Equal_Node s1 s2 =
 bif ((s1.2.length : Int) != (s2.2.length : Int)) then
 some false
else 
(slices_Equal_Node_L0 s1 s2 (s1.2.length : Int) 0).bind fun r =>
 match r with
| .inl y =>
 some y
| .inr z =>
 some true := Eq.trans (inf_call_eq (H := H) 159 (s1, s2)) (by kernel_rfl)
theorem impl_tryTerms_1_1_eq (own : Bool × List DNode) (a1 : Bool × List DNode) : impl_tryTerms_1_1 own a1 =
(slices_Equal_Node own a1).bind fun r =>
 some r := Eq.trans (inf_call_eq (H := H) 158 (own, a1)) (by kernel_rfl)
theorem slices_IndexFunc_Node_by_tryTerms_1_1_L0_eq (s : Bool × List (Bool × List DNode)) (f : (Bool × List DNode) × Unit) (t7 : Int) (t8 : Int) : slices_IndexFunc_Node_by_tryTerms_1_1_L0 s f t7 t8 =
 bif decide (t8 < t7) then
 bif decide (0 ≤ t8) then
 bif decide (t8 < (s.2.length : Int)) then
(impl_tryTerms_1_1 (s.2.getD (Int.toNat t8) (true, [])) f.1).bind fun r =>
 bif r then
 some (.inl t8)
else 
(slices_IndexFunc_Node_by_tryTerms_1_1_L0 s f t7 (IntKind.i64.wrap (t8 + 1))).bind fun r => some r
else none
else none
else 
 some (.inr ()) := Eq.trans (inf_loop_eq (H := H) 10063 0 (loopCode Try.f190 0) (s, (f, (t7, t8))) key_slices_IndexFunc_Node_by_tryTerms_1_1) (by kernel_rfl)
theorem slices_IndexFunc_Node_by_tryTerms_1_1_eq (s : Bool × List (Bool × List DNode)) (f : (Bool × List DNode) × Unit) : slices_IndexFunc_Node_by_tryTerms_1_1 s f =
(slices_IndexFunc_Node_by_tryTerms_1_1_L0 s f (s.2.length : Int) 0).bind fun r =>
 match r with
| .inl y =>
 some y
| .inr z =>
 some (-1) := Eq.trans (inf_call_eq (H := H) 10063 (s, f)) (by kernel_rfl)
theorem slices_ContainsFunc_Node_by_tryTerms_1_1_eq (s : Bool × List (Bool × List DNode)) (f : (Bool × List DNode) × Unit) : slices_ContainsFunc_Node_by_tryTerms_1_1 s f =
(slices_IndexFunc_Node_by_tryTerms_1_1 s f).bind fun r =>
 some (decide (r ≥ 0)) := Eq.trans (inf_call_eq (H := H) 10062 (s, f)) (by kernel_rfl)
theorem slices_Clone_Node_eq (s : Bool × List DNode) : slices_Clone_Node s =
 bif s.1 then
 some (true, [])
else 
 bif decide (([] : List DNode).length + s.2.length ≤ lim) then
 some (false, ([] ++ s.2))
else none := Eq.trans (inf_call_eq (H := H) 109 s) (by kernel_rfl)
theorem impl_tryTerms_1_eq (t : Bool × List DNode) (a1 : Bool × List (Bool × List DNode)) : impl_tryTerms_1 t a1 =
 bif decide ((a1.2.length : Int) < 40) then
(slices_ContainsFunc_Node_by_tryTerms_1_1 (a1.1, a1.2) (t, ())).bind fun r =>
 bif !r then
(slices_Clone_Node t).bind fun r1 =>
 bif decide (a1.2.length + [(r1.1, r1.2)].length ≤ lim) then
 some ((a1.1 && false), (a1.2 ++ [(r1.1, r1.2)]))
else none
else 
 some (a1.1, a1.2)
else 
 some (a1.1, a1.2) := Eq.trans (inf_call_eq (H := H) 157 (t, a1)) (by kernel_rfl)
theorem impl_PutAll_1_eq (own : Bool × List DNode) (a1 : Int) (a2 : Int) : impl_PutAll_1 own a1 a2 =
(impl_isTermOf a1 a2 own 1).bind fun r =>
 some (!r) := Eq.trans (inf_call_eq (H := H) 219 (own, (a1, a2))) (by kernel_rfl)
theorem slices_IndexFunc_Node_by_PutAll_1_L0_eq (s : Bool × List (Bool × List DNode)) (f : Int × Int × Unit) (t7 : Int) (t8 : Int) : slices_IndexFunc_Node_by_PutAll_1_L0 s f t7 t8 =
 bif decide (t8 < t7) then
 bif decide (0 ≤ t8) then
 bif decide (t8 < (s.2.length : Int)) then
(impl_PutAll_1 (s.2.getD (Int.toNat t8) (true, [])) f.1 f.2.1).bind fun r =>
 bif r then
 some (.inl t8)
else 
(slices_IndexFunc_Node_by_PutAll_1_L0 s f t7 (IntKind.i64.wrap (t8 + 1))).bind fun r => some r
else none
else none
else 
 some (.inr ()) := Eq.trans (inf_loop_eq (H := H) 10070 0 (loopCode Try.f190 0) (s, (f, (t7, t8))) key_slices_IndexFunc_Node_by_PutAll_1) (by kernel_rfl)
theorem slices_IndexFunc_Node_by_PutAll_1_eq (s : Bool × List (Bool × List DNode)) (f : Int × Int × Unit) : slices_IndexFunc_Node_by_PutAll_1 s f =
(slices_IndexFunc_Node_by_PutAll_1_L0 s f (s.2.length : Int) 0).bind fun r =>
 match r with
| .inl y =>
 some y
| .inr z =>
 some (-1) := Eq.trans (inf_call_eq (H := H) 10070 (s, f)) (by kernel_rfl)
theorem slices_ContainsFunc_Node_by_PutAll_1_eq (s : Bool × List (Bool × List DNode)) (f : Int × Int × Unit) : slices_ContainsFunc_Node_by_PutAll_1 s f =
(slices_IndexFunc_Node_by_PutAll_1 s f).bind fun r =>
 some (decide (r ≥ 0)) := Eq.trans (inf_call_eq (H := H) 10069 (s, f)) (by kernel_rfl)
theorem impl_checkedTerm_eq (wide : Int) (vars : Int) (t : Bool × List DNode) : impl_checkedTerm wide vars t =
(impl_GoodTerm wide vars t).bind fun r =>
 bif !r then
 some ((true, []), false)
else 
 some (t, true) := Eq.trans (inf_call_eq (H := H) 153 (wide, (vars, t))) (by kernel_rfl)
theorem impl_PutAll_L0_eq (by_ : Bool × List (Bool × List DNode)) (wide : Int) (vars : Int) (out : Bool × List DNode) (t30 : Bool × List DNode) (t31 : Int) (t32 : Int) : impl_PutAll_L0 by_ wide vars out t30 t31 t32 =
 bif decide (t32 < t31) then
 bif decide (0 ≤ t32) then
 bif decide (t32 < (t30.2.length : Int)) then
 bif (((t30.2.getD (Int.toNat t32) (0, 0)).1) == 2) then
 bif decide (0 ≤ ((t30.2.getD (Int.toNat t32) (0, 0)).2)) then
 bif decide (((t30.2.getD (Int.toNat t32) (0, 0)).2) < (by_.2.length : Int)) then
 bif decide (out.2.length + ((by_.2.getD (Int.toNat ((t30.2.getD (Int.toNat t32) (0, 0)).2)) (true, [])).2).length ≤ lim) then
(impl_PutAll_L0 by_ wide vars ((out.1 && ((by_.2.getD (Int.toNat ((t30.2.getD (Int.toNat t32) (0, 0)).2)) (true, [])).2).isEmpty), (out.2 ++ ((by_.2.getD (Int.toNat ((t30.2.getD (Int.toNat t32) (0, 0)).2)) (true, [])).2))) t30 t31 (IntKind.i64.wrap (t32 + 1))).bind fun r => some r
else none
else none
else none
else 
 bif decide (out.2.length + [(t30.2.getD (Int.toNat t32) (0, 0))].length ≤ lim) then
(impl_PutAll_L0 by_ wide vars ((out.1 && false), (out.2 ++ [(t30.2.getD (Int.toNat t32) (0, 0))])) t30 t31 (IntKind.i64.wrap (t32 + 1))).bind fun r => some r
else none
else none
else none
else 
 some (out.1, out.2) := Eq.trans (inf_loop_eq (H := H) 188 0 (loopCode Try.f188 0) (by_, (wide, (vars, (out, (t30, (t31, t32)))))) key_impl_PutAll) (by kernel_rfl)
theorem impl_PutAll_eq (wide : Int) (vars : Int) (t : Bool × List DNode) (by_ : Bool × List (Bool × List DNode)) : impl_PutAll wide vars t by_ =
(impl_GoodTerm wide vars t).bind fun r =>
 bif !r then
 some ((true, []), false)
else 
 bif ((by_.2.length : Int) != vars) then
 some ((true, []), false)
else 
(slices_ContainsFunc_Node_by_PutAll_1 by_ (wide, (vars, ()))).bind fun r1 =>
 bif r1 then
 some ((true, []), false)
else 
(impl_PutAll_L0 by_ wide vars (false, []) t (t.2.length : Int) 0).bind fun r2 =>
(impl_checkedTerm wide vars (r2.1, r2.2)).bind fun r3 =>
 some (r3.1, r3.2) := Eq.trans (inf_call_eq (H := H) 188 (wide, (vars, (t, by_)))) (by kernel_rfl)
theorem impl_Program_beforeOne_L0_eq (k_ : Int) (t : Bool × List DNode) (p : DProgram) (by_ : Bool × List (Bool × List DNode)) (t14 : Int) (t15 : Int) : impl_Program_beforeOne_L0 k_ t p by_ t14 t15 =
 bif decide (t15 < t14) then
 bif decide (by_.2.length + [(false, [(2, IntKind.u64.wrap t15)])].length ≤ lim) then
(impl_Program_beforeOne_L0 k_ t p ((by_.1 && false), (by_.2 ++ [(false, [(2, IntKind.u64.wrap t15)])])) t14 (IntKind.i64.wrap (t15 + 1))).bind fun r => some r
else none
else 
 some (by_.1, by_.2) := Eq.trans (inf_loop_eq (H := H) 152 0 (loopCode Try.f152 0) (k_, (t, (p, (by_, (t14, t15))))) key_impl_Program_beforeOne) (by kernel_rfl)
theorem impl_Program_beforeOne_L2_eq (t : Bool × List DNode) (p : DProgram) (by_ : Bool × List (Bool × List DNode)) (t31 : Bool × List DChange) (t32 : Int) (t33 : Int) : impl_Program_beforeOne_L2 t p by_ t31 t32 t33 =
 bif decide (t33 < t32) then
 bif decide (0 ≤ t33) then
 bif decide (t33 < (t31.2.length : Int)) then
 bif decide (0 ≤ ((t31.2.getD (Int.toNat t33) (0, (true, []))).1)) then
 bif decide (((t31.2.getD (Int.toNat t33) (0, (true, []))).1) < (by_.2.length : Int)) then
(impl_Program_beforeOne_L2 t p (by_.1, (by_.2.set (Int.toNat ((t31.2.getD (Int.toNat t33) (0, (true, []))).1)) ((t31.2.getD (Int.toNat t33) (0, (true, []))).2))) t31 t32 (IntKind.i64.wrap (t33 + 1))).bind fun r => some r
else none
else none
else none
else none
else 
 some (by_.1, by_.2) := Eq.trans (inf_loop_eq (H := H) 152 2 (loopCode Try.f152 2) (t, (p, (by_, (t31, (t32, t33))))) key_impl_Program_beforeOne) (by kernel_rfl)
theorem impl_Program_beforeOne_eq (p : DProgram) (k_ : Int) (t : Bool × List DNode) : impl_Program_beforeOne p k_ t =
(impl_Program_beforeOne_L0 k_ t p (false, []) p.2.1 0).bind fun r =>
 bif decide (0 ≤ k_) then
 bif decide (k_ < (p.2.2.2.2.length : Int)) then
(impl_Program_beforeOne_L2 t p (r.1, r.2) ((p.2.2.2.2.getD (Int.toNat k_) ((true, []), (true, []))).2) ((((p.2.2.2.2.getD (Int.toNat k_) ((true, []), (true, []))).2).2).length : Int) 0).bind fun r1 =>
(impl_PutAll p.1 p.2.1 t (r1.1, r1.2)).bind fun r2 =>
 some (r2.1, r2.2)
else none
else none := Eq.trans (inf_call_eq (H := H) 152 (p, (k_, t))) (by kernel_rfl)
theorem impl_tryTerms_L0_eq (preds : Bool × List (Bool × List DNode)) (p : DProgram) (out : Bool × List (Bool × List DNode)) (t17 : Bool × List DCommand) (t18 : Int) (t19 : Int) : impl_tryTerms_L0 preds p out t17 t18 t19 =
 bif decide (t19 < t18) then
 bif decide (0 ≤ t19) then
 bif decide (t19 < (t17.2.length : Int)) then
(impl_tryTerms_1 ((t17.2.getD (Int.toNat t19) ((true, []), (true, []))).1) (out.1, out.2)).bind fun r =>
(impl_tryTerms_L0 preds p (r.1, r.2) t17 t18 (IntKind.i64.wrap (t19 + 1))).bind fun r => some r
else none
else none
else 
 some (out.1, out.2) := Eq.trans (inf_loop_eq (H := H) 115 0 (loopCode Try.f115 0) (preds, (p, (out, (t17, (t18, t19))))) key_impl_tryTerms) (by kernel_rfl)
theorem impl_tryTerms_L2_eq (p : DProgram) (out : Bool × List (Bool × List DNode)) (t28 : Bool × List (Bool × List DNode)) (t29 : Int) (t30 : Int) : impl_tryTerms_L2 p out t28 t29 t30 =
 bif decide (t30 < t29) then
 bif decide (0 ≤ t30) then
 bif decide (t30 < (t28.2.length : Int)) then
(impl_tryTerms_L4 p (out.1, out.2) (t28.2.getD (Int.toNat t30) (true, [])) t28 t29 t30 (p.2.2.2.2.length : Int) 0).bind fun r =>
(impl_tryTerms_L2 p (r.1, r.2) t28 t29 (IntKind.i64.wrap (t30 + 1))).bind fun r => some r
else none
else none
else 
 some (out.1, out.2) := Eq.trans (inf_loop_eq (H := H) 115 2 (loopCode Try.f115 2) (p, (out, (t28, (t29, t30)))) key_impl_tryTerms) (by kernel_rfl)
theorem impl_tryTerms_L4_eq (p : DProgram) (out : Bool × List (Bool × List DNode)) (t : Bool × List DNode) (t28 : Bool × List (Bool × List DNode)) (t29 : Int) (t30 : Int) (t36 : Int) (t37 : Int) : impl_tryTerms_L4 p out t t28 t29 t30 t36 t37 =
 bif decide (t37 < t36) then
(impl_Program_beforeOne p t37 t).bind fun r =>
 bif r.2 then
(impl_tryTerms_1 r.1 (out.1, out.2)).bind fun r1 =>
(impl_tryTerms_L4 p (r1.1, r1.2) t t28 t29 t30 t36 (IntKind.i64.wrap (t37 + 1))).bind fun r => some r
else 
(impl_tryTerms_L4 p (out.1, out.2) t t28 t29 t30 t36 (IntKind.i64.wrap (t37 + 1))).bind fun r => some r
else 
 some (out.1, out.2) := Eq.trans (inf_loop_eq (H := H) 115 4 (loopCode Try.f115 4) (p, (out, (t, (t28, (t29, (t30, (t36, t37))))))) key_impl_tryTerms) (by kernel_rfl)
theorem impl_tryTerms_eq (p : DProgram) (preds : Bool × List (Bool × List DNode)) : impl_tryTerms p preds =
(impl_tryTerms_L0 preds p (false, []) p.2.2.2 (p.2.2.2.2.length : Int) 0).bind fun r =>
(impl_tryTerms_L2 p (r.1, r.2) preds (preds.2.length : Int) 0).bind fun r1 =>
 some (r1.1, r1.2) := Eq.trans (inf_call_eq (H := H) 115 (p, preds)) (by kernel_rfl)
theorem impl_TryTerms_eq (p : DProgram) (preds : Bool × List (Bool × List DNode)) : impl_TryTerms p preds =
(impl_isSmall p).bind fun r =>
 bif !r then
 some ((true, []), false)
else 
(impl_Program_arePreds p preds 0).bind fun r1 =>
 bif !r1 then
 some ((true, []), false)
else 
(impl_tryTerms p preds).bind fun r2 =>
 some ((r2.1, r2.2), true) := Eq.trans (inf_call_eq (H := H) 53 (p, preds)) (by kernel_rfl)
theorem laws_eqNode_eq (a : DNode) (b : DNode) : laws_eqNode a b =
 bif (a.1 != b.1) then
 some false
else 
 bif (a.2 != b.2) then
 some false
else 
 some true := Eq.trans (inf_call_eq (H := H) 79 (a, b)) (by kernel_rfl)
theorem laws_eqNodeS_L0_eq (a : Bool × List DNode) (b : Bool × List DNode) (i : Int) : laws_eqNodeS_L0 a b i =
 bif decide (i < (a.2.length : Int)) then
 bif decide (0 ≤ i) then
 bif decide (i < (a.2.length : Int)) then
 bif decide (0 ≤ i) then
 bif decide (i < (b.2.length : Int)) then
(laws_eqNode (a.2.getD (Int.toNat i) (0, 0)) (b.2.getD (Int.toNat i) (0, 0))).bind fun r =>
 bif !r then
 some (.inl false)
else 
(laws_eqNodeS_L0 a b (IntKind.i64.wrap (i + 1))).bind fun r => some r
else none
else none
else none
else none
else 
 some (.inr ()) := Eq.trans (inf_loop_eq (H := H) 21 0 (loopCode Try.f21 0) (a, (b, i)) key_laws_eqNodeS) (by kernel_rfl)
theorem laws_eqNodeS_eq (a : Bool × List DNode) (b : Bool × List DNode) : laws_eqNodeS a b =
 bif ((a.2.length : Int) != (b.2.length : Int)) then
 some false
else 
(laws_eqNodeS_L0 a b 0).bind fun r =>
 match r with
| .inl y =>
 some y
| .inr z =>
 some true := Eq.trans (inf_call_eq (H := H) 21 (a, b)) (by kernel_rfl)
theorem laws_eqNodeSS_L0_eq (a : Bool × List (Bool × List DNode)) (b : Bool × List (Bool × List DNode)) (i : Int) : laws_eqNodeSS_L0 a b i =
 bif decide (i < (a.2.length : Int)) then
 bif decide (0 ≤ i) then
 bif decide (i < (a.2.length : Int)) then
 bif decide (0 ≤ i) then
 bif decide (i < (b.2.length : Int)) then
(laws_eqNodeS (a.2.getD (Int.toNat i) (true, [])) (b.2.getD (Int.toNat i) (true, []))).bind fun r =>
 bif !r then
 some (.inl false)
else 
(laws_eqNodeSS_L0 a b (IntKind.i64.wrap (i + 1))).bind fun r => some r
else none
else none
else none
else none
else 
 some (.inr ()) := Eq.trans (inf_loop_eq (H := H) 54 0 (loopCode Try.f54 0) (a, (b, i)) key_laws_eqNodeSS) (by kernel_rfl)
theorem laws_eqNodeSS_eq (a : Bool × List (Bool × List DNode)) (b : Bool × List (Bool × List DNode)) : laws_eqNodeSS a b =
 bif ((a.2.length : Int) != (b.2.length : Int)) then
 some false
else 
(laws_eqNodeSS_L0 a b 0).bind fun r =>
 match r with
| .inl y =>
 some y
| .inr z =>
 some true := Eq.trans (inf_call_eq (H := H) 54 (a, b)) (by kernel_rfl)
theorem laws_eqChange_eq (a : DChange) (b : DChange) : laws_eqChange a b =
 bif (a.1 != b.1) then
 some false
else 
(laws_eqNodeS a.2 b.2).bind fun r =>
 bif !r then
 some false
else 
 some true := Eq.trans (inf_call_eq (H := H) 210 (a, b)) (by kernel_rfl)
theorem laws_eqChangeS_L0_eq (a : Bool × List DChange) (b : Bool × List DChange) (i : Int) : laws_eqChangeS_L0 a b i =
 bif decide (i < (a.2.length : Int)) then
 bif decide (0 ≤ i) then
 bif decide (i < (a.2.length : Int)) then
 bif decide (0 ≤ i) then
 bif decide (i < (b.2.length : Int)) then
(laws_eqChange (a.2.getD (Int.toNat i) (0, (true, []))) (b.2.getD (Int.toNat i) (0, (true, [])))).bind fun r =>
 bif !r then
 some (.inl false)
else 
(laws_eqChangeS_L0 a b (IntKind.i64.wrap (i + 1))).bind fun r => some r
else none
else none
else none
else none
else 
 some (.inr ()) := Eq.trans (inf_loop_eq (H := H) 176 0 (loopCode Try.f176 0) (a, (b, i)) key_laws_eqChangeS) (by kernel_rfl)
theorem laws_eqChangeS_eq (a : Bool × List DChange) (b : Bool × List DChange) : laws_eqChangeS a b =
 bif ((a.2.length : Int) != (b.2.length : Int)) then
 some false
else 
(laws_eqChangeS_L0 a b 0).bind fun r =>
 match r with
| .inl y =>
 some y
| .inr z =>
 some true := Eq.trans (inf_call_eq (H := H) 176 (a, b)) (by kernel_rfl)
theorem laws_eqCommand_eq (a : DCommand) (b : DCommand) : laws_eqCommand a b =
(laws_eqNodeS a.1 b.1).bind fun r =>
 bif !r then
 some false
else 
(laws_eqChangeS a.2 b.2).bind fun r1 =>
 bif !r1 then
 some false
else 
 some true := Eq.trans (inf_call_eq (H := H) 137 (a, b)) (by kernel_rfl)
theorem laws_eqCommandS_L0_eq (a : Bool × List DCommand) (b : Bool × List DCommand) (i : Int) : laws_eqCommandS_L0 a b i =
 bif decide (i < (a.2.length : Int)) then
 bif decide (0 ≤ i) then
 bif decide (i < (a.2.length : Int)) then
 bif decide (0 ≤ i) then
 bif decide (i < (b.2.length : Int)) then
(laws_eqCommand (a.2.getD (Int.toNat i) ((true, []), (true, []))) (b.2.getD (Int.toNat i) ((true, []), (true, [])))).bind fun r =>
 bif !r then
 some (.inl false)
else 
(laws_eqCommandS_L0 a b (IntKind.i64.wrap (i + 1))).bind fun r => some r
else none
else none
else none
else none
else 
 some (.inr ()) := Eq.trans (inf_loop_eq (H := H) 78 0 (loopCode Try.f78 0) (a, (b, i)) key_laws_eqCommandS) (by kernel_rfl)
theorem laws_eqCommandS_eq (a : Bool × List DCommand) (b : Bool × List DCommand) : laws_eqCommandS a b =
 bif ((a.2.length : Int) != (b.2.length : Int)) then
 some false
else 
(laws_eqCommandS_L0 a b 0).bind fun r =>
 match r with
| .inl y =>
 some y
| .inr z =>
 some true := Eq.trans (inf_call_eq (H := H) 78 (a, b)) (by kernel_rfl)
theorem laws_eqProgram_eq (a : DProgram) (b : DProgram) : laws_eqProgram a b =
 bif (a.1 != b.1) then
 some false
else 
 bif (a.2.1 != b.2.1) then
 some false
else 
(laws_eqNodeS a.2.2.1 b.2.2.1).bind fun r =>
 bif !r then
 some false
else 
(laws_eqCommandS a.2.2.2 b.2.2.2).bind fun r1 =>
 bif !r1 then
 some false
else 
 some true := Eq.trans (inf_call_eq (H := H) 20 (a, b)) (by kernel_rfl)
theorem laws_markNodeS_L0_eq (a : Bool × List DNode) (k_ : Int) (i : Int) : laws_markNodeS_L0 a k_ i =
 bif decide (i < (a.2.length : Int)) then
 bif decide (0 ≤ i) then
 bif decide (i < (a.2.length : Int)) then
 bif decide (0 ≤ i) then
 bif decide (i < ((a.2.set (Int.toNat i) (k_, (a.2.getD (Int.toNat i) (0, 0)).2)).length : Int)) then
(laws_markNodeS_L0 (a.1, ((a.2.set (Int.toNat i) (k_, (a.2.getD (Int.toNat i) (0, 0)).2)).set (Int.toNat i) (((a.2.set (Int.toNat i) (k_, (a.2.getD (Int.toNat i) (0, 0)).2)).getD (Int.toNat i) (0, 0)).1, IntKind.u64.wrap (IntKind.i64.wrap (k_ + 1))))) (IntKind.i64.wrap ((IntKind.i64.wrap (k_ + 1)) + 1)) (IntKind.i64.wrap (i + 1))).bind fun r => some r
else none
else none
else none
else none
else 
 some ((a.1, a.2), k_) := Eq.trans (inf_loop_eq (H := H) 48 0 (loopCode Try.f48 0) (a, (k_, i)) key_laws_markNodeS) (by kernel_rfl)
theorem laws_markNodeS_eq (a : Bool × List DNode) (k_ : Int) : laws_markNodeS a k_ =
(laws_markNodeS_L0 (a.1, a.2) k_ 0).bind fun r =>
 some ((r.1.1, r.1.2), r.2) := Eq.trans (inf_call_eq (H := H) 48 (a, k_)) (by kernel_rfl)
theorem laws_markChangeS_L0_eq (a : Bool × List DChange) (k_ : Int) (i : Int) : laws_markChangeS_L0 a k_ i =
 bif decide (i < (a.2.length : Int)) then
 bif decide (0 ≤ i) then
 bif decide (i < (a.2.length : Int)) then
 bif decide (0 ≤ i) then
 bif decide (i < ((a.2.set (Int.toNat i) (k_, (a.2.getD (Int.toNat i) (0, (true, []))).2)).length : Int)) then
(laws_markNodeS ((((a.2.set (Int.toNat i) (k_, (a.2.getD (Int.toNat i) (0, (true, []))).2)).getD (Int.toNat i) (0, (true, []))).2).1, (((a.2.set (Int.toNat i) (k_, (a.2.getD (Int.toNat i) (0, (true, []))).2)).getD (Int.toNat i) (0, (true, []))).2).2) (IntKind.i64.wrap (k_ + 1))).bind fun r =>
(laws_markChangeS_L0 (a.1, ((a.2.set (Int.toNat i) (k_, (a.2.getD (Int.toNat i) (0, (true, []))).2)).set (Int.toNat i) (((a.2.set (Int.toNat i) (k_, (a.2.getD (Int.toNat i) (0, (true, []))).2)).getD (Int.toNat i) (0, (true, []))).1, (r.1.1, r.1.2)))) r.2 (IntKind.i64.wrap (i + 1))).bind fun r => some r
else none
else none
else none
else none
else 
 some ((a.1, a.2), k_) := Eq.trans (inf_loop_eq (H := H) 148 0 (loopCode Try.f148 0) (a, (k_, i)) key_laws_markChangeS) (by kernel_rfl)
theorem laws_markChangeS_eq (a : Bool × List DChange) (k_ : Int) : laws_markChangeS a k_ =
(laws_markChangeS_L0 (a.1, a.2) k_ 0).bind fun r =>
 some ((r.1.1, r.1.2), r.2) := Eq.trans (inf_call_eq (H := H) 148 (a, k_)) (by kernel_rfl)
theorem laws_markCommandS_L0_eq (a : Bool × List DCommand) (k_ : Int) (i : Int) : laws_markCommandS_L0 a k_ i =
 bif decide (i < (a.2.length : Int)) then
 bif decide (0 ≤ i) then
 bif decide (i < (a.2.length : Int)) then
(laws_markNodeS (((a.2.getD (Int.toNat i) ((true, []), (true, []))).1).1, ((a.2.getD (Int.toNat i) ((true, []), (true, []))).1).2) k_).bind fun r =>
 bif decide (0 ≤ i) then
 bif decide (i < (a.2.length : Int)) then
(laws_markChangeS ((((a.2.set (Int.toNat i) ((r.1.1, r.1.2), (a.2.getD (Int.toNat i) ((true, []), (true, []))).2)).getD (Int.toNat i) ((true, []), (true, []))).2).1, (((a.2.set (Int.toNat i) ((r.1.1, r.1.2), (a.2.getD (Int.toNat i) ((true, []), (true, []))).2)).getD (Int.toNat i) ((true, []), (true, []))).2).2) r.2).bind fun r1 =>
(laws_markCommandS_L0 (a.1, ((a.2.set (Int.toNat i) ((r.1.1, r.1.2), (a.2.getD (Int.toNat i) ((true, []), (true, []))).2)).set (Int.toNat i) (((a.2.set (Int.toNat i) ((r.1.1, r.1.2), (a.2.getD (Int.toNat i) ((true, []), (true, []))).2)).getD (Int.toNat i) ((true, []), (true, []))).1, (r1.1.1, r1.1.2)))) r1.2 (IntKind.i64.wrap (i + 1))).bind fun r => some r
else none
else none
else none
else none
else 
 some ((a.1, a.2), k_) := Eq.trans (inf_loop_eq (H := H) 103 0 (loopCode Try.f103 0) (a, (k_, i)) key_laws_markCommandS) (by kernel_rfl)
theorem laws_markCommandS_eq (a : Bool × List DCommand) (k_ : Int) : laws_markCommandS a k_ =
(laws_markCommandS_L0 (a.1, a.2) k_ 0).bind fun r =>
 some ((r.1.1, r.1.2), r.2) := Eq.trans (inf_call_eq (H := H) 103 (a, k_)) (by kernel_rfl)
theorem laws_markProgram_eq (a0_0 : Int) (a0_1 : Int) (a0_2 : Bool × List DNode) (a0_3 : Bool × List DCommand) (k_ : Int) : laws_markProgram a0_0 a0_1 a0_2 a0_3 k_ =
(laws_markNodeS (a0_2.1, a0_2.2) k_).bind fun r =>
(laws_markCommandS (a0_3.1, a0_3.2) r.2).bind fun r1 =>
 some ((r.1.1, r.1.2), ((r1.1.1, r1.1.2), r1.2)) := Eq.trans (inf_call_eq (H := H) 42 (a0_0, (a0_1, (a0_2, (a0_3, k_))))) (by kernel_rfl)
theorem laws_markNodeSS_L0_eq (a : Bool × List (Bool × List DNode)) (k_ : Int) (i : Int) : laws_markNodeSS_L0 a k_ i =
 bif decide (i < (a.2.length : Int)) then
 bif decide (0 ≤ i) then
 bif decide (i < (a.2.length : Int)) then
(laws_markNodeS ((a.2.getD (Int.toNat i) (true, [])).1, (a.2.getD (Int.toNat i) (true, [])).2) k_).bind fun r =>
(laws_markNodeSS_L0 (a.1, (a.2.set (Int.toNat i) (r.1.1, r.1.2))) r.2 (IntKind.i64.wrap (i + 1))).bind fun r => some r
else none
else none
else 
 some ((a.1, a.2), k_) := Eq.trans (inf_loop_eq (H := H) 55 0 (loopCode Try.f55 0) (a, (k_, i)) key_laws_markNodeSS) (by kernel_rfl)
theorem laws_markNodeSS_eq (a : Bool × List (Bool × List DNode)) (k_ : Int) : laws_markNodeSS a k_ =
(laws_markNodeSS_L0 (a.1, a.2) k_ 0).bind fun r =>
 some ((r.1.1, r.1.2), r.2) := Eq.trans (inf_call_eq (H := H) 55 (a, k_)) (by kernel_rfl)
theorem laws_heldNodeS_L0_eq (a : Bool × List DNode) (k_ : Int) (i : Int) : laws_heldNodeS_L0 a k_ i =
 bif decide (i < (a.2.length : Int)) then
 bif decide (0 ≤ i) then
 bif decide (i < (a.2.length : Int)) then
 bif (((a.2.getD (Int.toNat i) (0, 0)).1) != k_) then
 some (.inl (-1))
else 
 bif decide (0 ≤ i) then
 bif decide (i < (a.2.length : Int)) then
 bif (((a.2.getD (Int.toNat i) (0, 0)).2) != (IntKind.u64.wrap (IntKind.i64.wrap (k_ + 1)))) then
 some (.inl (-1))
else 
(laws_heldNodeS_L0 a (IntKind.i64.wrap ((IntKind.i64.wrap (k_ + 1)) + 1)) (IntKind.i64.wrap (i + 1))).bind fun r => some r
else none
else none
else none
else none
else 
 some (.inr k_) := Eq.trans (inf_loop_eq (H := H) 49 0 (loopCode Try.f49 0) (a, (k_, i)) key_laws_heldNodeS) (by kernel_rfl)
theorem laws_heldNodeS_eq (a : Bool × List DNode) (k_ : Int) : laws_heldNodeS a k_ =
(laws_heldNodeS_L0 a k_ 0).bind fun r =>
 match r with
| .inl y =>
 some y
| .inr z =>
 some z := Eq.trans (inf_call_eq (H := H) 49 (a, k_)) (by kernel_rfl)
theorem laws_heldNodeSS_L0_eq (a : Bool × List (Bool × List DNode)) (k_ : Int) (i : Int) : laws_heldNodeSS_L0 a k_ i =
 bif decide (i < (a.2.length : Int)) then
 bif decide (0 ≤ i) then
 bif decide (i < (a.2.length : Int)) then
(laws_heldNodeS (a.2.getD (Int.toNat i) (true, [])) k_).bind fun r =>
 bif decide (r < 0) then
 some (.inl (-1))
else 
(laws_heldNodeSS_L0 a r (IntKind.i64.wrap (i + 1))).bind fun r => some r
else none
else none
else 
 some (.inr k_) := Eq.trans (inf_loop_eq (H := H) 56 0 (loopCode Try.f56 0) (a, (k_, i)) key_laws_heldNodeSS) (by kernel_rfl)
theorem laws_heldNodeSS_eq (a : Bool × List (Bool × List DNode)) (k_ : Int) : laws_heldNodeSS a k_ =
(laws_heldNodeSS_L0 a k_ 0).bind fun r =>
 match r with
| .inl y =>
 some y
| .inr z =>
 some z := Eq.trans (inf_call_eq (H := H) 56 (a, k_)) (by kernel_rfl)
theorem laws_FnExactTryTerms_eq (aP : DProgram) (aPreds : Bool × List (Bool × List DNode)) : laws_FnExactTryTerms aP aPreds =
(laws_szProgram aP 1048576).bind fun r =>
 bif decide (r < 0) then
 some true
else 
(laws_szNodeSS aPreds r).bind fun r1 =>
 bif decide (r1 < 0) then
 some true
else 
(laws_toProgram aP).bind fun r2 =>
(laws_toNodeSS aPreds).bind fun r3 =>
(spec_TryTerms (r2.1, (r2.2.1, ((r2.2.2.1.1, r2.2.2.1.2), (r2.2.2.2.1, r2.2.2.2.2)))) (r3.1, r3.2)).bind fun r4 =>
(laws_toProgram aP).bind fun r5 =>
(laws_toNodeSS aPreds).bind fun r6 =>
(impl_TryTerms (r5.1, (r5.2.1, ((r5.2.2.1.1, r5.2.2.1.2), (r5.2.2.2.1, r5.2.2.2.2)))) (r6.1, r6.2)).bind fun r7 =>
(laws_eqNodeSS (r7.1.1, r7.1.2) (r4.1.1, r4.1.2)).bind fun r8 =>
 bif !r8 then
 some false
else 
 bif !(r7.2 == r4.2) then
 some false
else 
(laws_toProgram aP).bind fun r9 =>
(laws_eqProgram (r5.1, (r5.2.1, ((r5.2.2.1.1, r5.2.2.1.2), (r5.2.2.2.1, r5.2.2.2.2)))) (r9.1, (r9.2.1, ((r9.2.2.1.1, r9.2.2.1.2), (r9.2.2.2.1, r9.2.2.2.2))))).bind fun r10 =>
 bif !r10 then
 some false
else 
(laws_toNodeSS aPreds).bind fun r11 =>
(laws_eqNodeSS (r6.1, r6.2) (r11.1, r11.2)).bind fun r12 =>
 bif !r12 then
 some false
else 
(laws_markProgram r5.1 r5.2.1 (r5.2.2.1.1, r5.2.2.1.2) (r5.2.2.2.1, r5.2.2.2.2) 1).bind fun r13 =>
(laws_markNodeSS (r6.1, r6.2) r13.2.2).bind fun r14 =>
 bif decide (r14.2 < 0) then
 some false
else 
(laws_eqNodeSS (r7.1.1, r7.1.2) (r4.1.1, r4.1.2)).bind fun r15 =>
 bif !r15 then
 some false
else 
 bif !(r7.2 == r4.2) then
 some false
else 
(laws_markNodeSS (r7.1.1, r7.1.2) 1).bind fun r16 =>
(laws_heldNodeSS (r16.1.1, r16.1.2) 1).bind fun r17 =>
 bif decide (r17 < 0) then
 some false
else 
 bif (r17 != r16.2) then
 some false
else 
(laws_toProgram aP).bind fun r18 =>
(laws_toNodeSS aPreds).bind fun r19 =>
(impl_TryTerms (r18.1, (r18.2.1, ((r18.2.2.1.1, r18.2.2.1.2), (r18.2.2.2.1, r18.2.2.2.2)))) (r19.1, r19.2)).bind fun r20 =>
(laws_eqNodeSS (r20.1.1, r20.1.2) (r4.1.1, r4.1.2)).bind fun r21 =>
 bif !r21 then
 some false
else 
 bif !(r20.2 == r4.2) then
 some false
else 
(laws_heldNodeSS (r16.1.1, r16.1.2) 1).bind fun r22 =>
 bif decide (r22 < 0) then
 some false
else 
 bif (r22 != r16.2) then
 some false
else 
 some true := Eq.trans (inf_call_eq (H := H) 10 (aP, aPreds)) (by kernel_rfl)
theorem fit : Fit Try.prog H := fit_of (exts := extsL) (tys := tysL) (cells := cellsL) (keys := keysL) rfl rfl rfl rfl (by kernel_rfl) (by kernel_rfl) ⟨⟨Try.func15, by kernel_rfl, by kernel_rfl⟩, ⟨Try.func206, by kernel_rfl, by kernel_rfl⟩, ⟨Try.func169, by kernel_rfl, by kernel_rfl⟩, ⟨Try.func128, by kernel_rfl, by kernel_rfl⟩, ⟨Try.func68, by kernel_rfl, by kernel_rfl⟩, ⟨Try.func14, by kernel_rfl, by kernel_rfl⟩, ⟨Try.func50, by kernel_rfl, by kernel_rfl⟩, ⟨Try.func74, by kernel_rfl, by kernel_rfl⟩, ⟨Try.func18, by kernel_rfl, by kernel_rfl⟩, ⟨Try.func209, by kernel_rfl, by kernel_rfl⟩, ⟨Try.func175, by kernel_rfl, by kernel_rfl⟩, ⟨Try.func135, by kernel_rfl, by kernel_rfl⟩, ⟨Try.func73, by kernel_rfl, by kernel_rfl⟩, ⟨Try.func17, by kernel_rfl, by kernel_rfl⟩, ⟨Try.func52, by kernel_rfl, by kernel_rfl⟩, ⟨Try.func96, by kernel_rfl, by kernel_rfl⟩, ⟨Try.func171, by kernel_rfl, by kernel_rfl⟩, ⟨Try.func172, by kernel_rfl, by kernel_rfl⟩, ⟨Try.func196, by kernel_rfl, by kernel_rfl⟩, ⟨Try.func207, by kernel_rfl, by kernel_rfl⟩, ⟨Try.func173, by kernel_rfl, by kernel_rfl⟩, ⟨Try.func130, by kernel_rfl, by kernel_rfl⟩, ⟨Try.func70, by kernel_rfl, by kernel_rfl⟩, ⟨Try.func170, by kernel_rfl, by kernel_rfl⟩, ⟨Try.func129, by kernel_rfl, by kernel_rfl⟩, ⟨Try.func69, by kernel_rfl, by kernel_rfl⟩, ⟨Try.func112, by kernel_rfl, by kernel_rfl⟩, ⟨Try.func189, by kernel_rfl, by kernel_rfl⟩, ⟨Try.func154, by kernel_rfl, by kernel_rfl⟩, ⟨Try.func187, by kernel_rfl, by kernel_rfl⟩, ⟨Try.func150, by kernel_rfl, by kernel_rfl⟩, ⟨Try.func186, by kernel_rfl, by kernel_rfl⟩, ⟨Try.func149, by kernel_rfl, by kernel_rfl⟩, ⟨Try.func113, by kernel_rfl, by kernel_rfl⟩, ⟨Try.func51, by kernel_rfl, by kernel_rfl⟩, ⟨Try.func177, by kernel_rfl, by kernel_rfl⟩, ⟨Try.func178, by kernel_rfl, by kernel_rfl⟩, ⟨Try.func212, by kernel_rfl, by kernel_rfl⟩, ⟨Try.func143, by kernel_rfl, by kernel_rfl⟩, ⟨Try.func226, by kernel_rfl, by kernel_rfl⟩, ⟨Try.func213, by kernel_rfl, by kernel_rfl⟩, ⟨Try.func214, by kernel_rfl, by kernel_rfl⟩, ⟨Try.func141, by kernel_rfl, by kernel_rfl⟩, ⟨Try.func88, by kernel_rfl, by kernel_rfl⟩, ⟨Try.func182, by kernel_rfl, by kernel_rfl⟩, ⟨Try.func183, by kernel_rfl, by kernel_rfl⟩, ⟨Try.func140, by kernel_rfl, by kernel_rfl⟩, ⟨Try.func87, by kernel_rfl, by kernel_rfl⟩, ⟨Try.func181, by kernel_rfl, by kernel_rfl⟩, ⟨Try.func180, by kernel_rfl, by kernel_rfl⟩, ⟨Try.func211, by kernel_rfl, by kernel_rfl⟩, ⟨Try.func179, by kernel_rfl, by kernel_rfl⟩, ⟨Try.func139, by kernel_rfl, by kernel_rfl⟩, ⟨Try.func84, by kernel_rfl, by kernel_rfl⟩, ⟨Try.func156, by kernel_rfl, by kernel_rfl⟩, ⟨Try.func190, by kernel_rfl, by kernel_rfl⟩, ⟨Try.func155, by kernel_rfl, by kernel_rfl⟩, ⟨Try.func114, by kernel_rfl, by kernel_rfl⟩, ⟨Try.func159, by kernel_rfl, by kernel_rfl⟩, ⟨Try.func158, by kernel_rfl, by kernel_rfl⟩, ⟨Try.func190, by kernel_rfl, by kernel_rfl⟩, ⟨Try.func155, by kernel_rfl, by kernel_rfl⟩, ⟨Try.func109, by kernel_rfl, by kernel_rfl⟩, ⟨Try.func157, by kernel_rfl, by kernel_rfl⟩, ⟨Try.func219, by kernel_rfl, by kernel_rfl⟩, ⟨Try.func190, by kernel_rfl, by kernel_rfl⟩, ⟨Try.func155, by kernel_rfl, by kernel_rfl⟩, ⟨Try.func153, by kernel_rfl, by kernel_rfl⟩, ⟨Try.func188, by kernel_rfl, by kernel_rfl⟩, ⟨Try.func152, by kernel_rfl, by kernel_rfl⟩, ⟨Try.func115, by kernel_rfl, by kernel_rfl⟩, ⟨Try.func53, by kernel_rfl, by kernel_rfl⟩, ⟨Try.func79, by kernel_rfl, by kernel_rfl⟩, ⟨Try.func21, by kernel_rfl, by kernel_rfl⟩, ⟨Try.func54, by kernel_rfl, by kernel_rfl⟩, ⟨Try.func210, by kernel_rfl, by kernel_rfl⟩, ⟨Try.func176, by kernel_rfl, by kernel_rfl⟩, ⟨Try.func137, by kernel_rfl, by kernel_rfl⟩, ⟨Try.func78, by kernel_rfl, by kernel_rfl⟩, ⟨Try.func20, by kernel_rfl, by kernel_rfl⟩, ⟨Try.func48, by kernel_rfl, by kernel_rfl⟩, ⟨Try.func148, by kernel_rfl, by kernel_rfl⟩, ⟨Try.func103, by kernel_rfl, by kernel_rfl⟩, ⟨Try.func42, by kernel_rfl, by kernel_rfl⟩, ⟨Try.func55, by kernel_rfl, by kernel_rfl⟩, ⟨Try.func49, by kernel_rfl, by kernel_rfl⟩, ⟨Try.func56, by kernel_rfl, by kernel_rfl⟩, ⟨Try.func10, by kernel_rfl, by kernel_rfl⟩, trivial⟩ trivial (by kernel_rfl)
end Go.Proofs.Ytdfccojbamlkdaa.R
