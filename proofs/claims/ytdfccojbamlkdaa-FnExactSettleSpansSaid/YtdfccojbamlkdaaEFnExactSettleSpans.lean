/- Kinds, signatures and loops of the functions that the laws reach, and what each computes. -/
import Derived.Test.YtdfccojbamlkdaaRfD
import Derived.Test.YtdfccojbamlkdaaProg
import Derived.KernelRfl
set_option linter.unusedVariables false
namespace Go.Proofs.Ytdfccojbamlkdaa.R
open Go.Rf Go.Proofs
def tyNode : Ty := (.pair (.int .i64) (.int .u64))
abbrev DNode := Int × Int
def tySpan : Ty := (.pair (.int .u64) (.int .u64))
abbrev DSpan := Int × Int
def tySight : Ty := (.one (.sl (.int .i64)))
abbrev DSight := Bool × List Int
def tyboundsError : Ty := (.pair (.int .i64) (.pair (.int .i64) (.pair .bool (.int .u8))))
abbrev DboundsError := Int × Int × Bool × Int
def tyProof : Ty := (.pair (.sl (.int .i64)) (.pair (.sl (.int .i64)) (.sl (.int .i64))))
abbrev DProof := (Bool × List Int) × (Bool × List Int) × Bool × List Int
def tyChange : Ty := (.pair (.int .i64) (.sl tyNode))
abbrev DChange := Int × Bool × List DNode
def tyCommand : Ty := (.pair (.sl tyNode) (.sl tyChange))
abbrev DCommand := (Bool × List DNode) × Bool × List DChange
def tyProgram : Ty := (.pair (.int .i64) (.pair (.int .i64) (.pair (.sl tyNode) (.sl tyCommand))))
abbrev DProgram := Int × Int × (Bool × List DNode) × Bool × List DCommand
noncomputable def h_laws_szNodeS : FnH := ⟨15, Try.f15, (.tup (.v (.sl tyNode)) (.tup (.v (.int .i64)) .unit)), (.tup (.v (.int .i64)) .unit), [], [], [], [], []⟩
noncomputable def h_laws_szChange : FnH := ⟨206, Try.f206, (.tup (.v tyChange) (.tup (.v (.int .i64)) .unit)), (.tup (.v (.int .i64)) .unit), [], [], [], [], []⟩
noncomputable def h_laws_szChangeS : FnH := ⟨169, Try.f169, (.tup (.v (.sl tyChange)) (.tup (.v (.int .i64)) .unit)), (.tup (.v (.int .i64)) .unit), [], [], [(0, ⟨[(0, (.v (.sl tyChange))), (1, (.v (.int .i64))), (5, (.v (.int .i64)))], [(.ret, [(4, (.v (.int .i64)))]), (.exit 0, [(1, (.v (.int .i64)))])], []⟩)], [], []⟩
noncomputable def h_laws_szCommand : FnH := ⟨128, Try.f128, (.tup (.v tyCommand) (.tup (.v (.int .i64)) .unit)), (.tup (.v (.int .i64)) .unit), [], [], [], [], []⟩
noncomputable def h_laws_szCommandS : FnH := ⟨68, Try.f68, (.tup (.v (.sl tyCommand)) (.tup (.v (.int .i64)) .unit)), (.tup (.v (.int .i64)) .unit), [], [], [(0, ⟨[(0, (.v (.sl tyCommand))), (1, (.v (.int .i64))), (5, (.v (.int .i64)))], [(.ret, [(4, (.v (.int .i64)))]), (.exit 0, [(1, (.v (.int .i64)))])], []⟩)], [], []⟩
noncomputable def h_laws_szProgram : FnH := ⟨14, Try.f14, (.tup (.v tyProgram) (.tup (.v (.int .i64)) .unit)), (.tup (.v (.int .i64)) .unit), [], [], [], [], []⟩
noncomputable def h_laws_szSpanS : FnH := ⟨59, Try.f59, (.tup (.v (.sl tySpan)) (.tup (.v (.int .i64)) .unit)), (.tup (.v (.int .i64)) .unit), [], [], [], [], []⟩
noncomputable def h_laws_toNode : FnH := ⟨74, Try.f74, (.tup (.v tyNode) .unit), (.tup (.v tyNode) .unit), [], [], [], [], []⟩
noncomputable def h_laws_toNodeS : FnH := ⟨18, Try.f18, (.tup (.v (.sl tyNode)) .unit), (.tup (.own 206850 tyNode true) .unit), [], [], [(0, ⟨[(0, (.v (.sl tyNode))), (3, (.own 206849 tyNode true)), (4, (.v (.int .i64)))], [(.exit 0, [(1206849, (.own 206849 tyNode true))])], [3]⟩)], [], []⟩
noncomputable def h_laws_toChange : FnH := ⟨209, Try.f209, (.tup (.v tyChange) .unit), (.tup (.pair (.v (.int .i64)) (.own 206851 tyNode true)) .unit), [], [], [], [], []⟩
noncomputable def h_laws_toChangeS : FnH := ⟨175, Try.f175, (.tup (.v (.sl tyChange)) .unit), (.tup (.own 206853 tyChange true) .unit), [], [], [(0, ⟨[(0, (.v (.sl tyChange))), (3, (.own 206852 tyChange true)), (4, (.v (.int .i64)))], [(.exit 0, [(1206852, (.own 206852 tyChange true))])], [3]⟩)], [], []⟩
noncomputable def h_laws_toCommand : FnH := ⟨135, Try.f135, (.tup (.v tyCommand) .unit), (.tup (.pair (.own 206854 tyNode true) (.own 206855 tyChange true)) .unit), [], [], [], [], []⟩
noncomputable def h_laws_toCommandS : FnH := ⟨73, Try.f73, (.tup (.v (.sl tyCommand)) .unit), (.tup (.own 206857 tyCommand true) .unit), [], [], [(0, ⟨[(0, (.v (.sl tyCommand))), (3, (.own 206856 tyCommand true)), (4, (.v (.int .i64)))], [(.exit 0, [(1206856, (.own 206856 tyCommand true))])], [3]⟩)], [], []⟩
noncomputable def h_laws_toProgram : FnH := ⟨17, Try.f17, (.tup (.v tyProgram) .unit), (.tup (.pair (.v (.int .i64)) (.pair (.v (.int .i64)) (.pair (.own 206858 tyNode true) (.own 206859 tyCommand true)))) .unit), [], [], [], [], []⟩
noncomputable def h_laws_toSpan : FnH := ⟨122, Try.f122, (.tup (.v tySpan) .unit), (.tup (.v tySpan) .unit), [], [], [], [], []⟩
noncomputable def h_laws_toSpanS : FnH := ⟨61, Try.f61, (.tup (.v (.sl tySpan)) .unit), (.tup (.own 206861 tySpan true) .unit), [], [], [(0, ⟨[(0, (.v (.sl tySpan))), (3, (.own 206860 tySpan true)), (4, (.v (.int .i64)))], [(.exit 0, [(1206860, (.own 206860 tySpan true))])], [3]⟩)], [], []⟩
noncomputable def h_spec_l1In : FnH := ⟨96, Try.f96, (.tup (.v (.int .i64)) (.tup (.v (.int .i64)) (.tup (.v (.int .i64)) .unit))), (.tup (.v .bool) .unit), [], [], [], [], []⟩
noncomputable def h_spec_l1Wide : FnH := ⟨171, Try.f171, (.tup (.v (.int .i64)) .unit), (.tup (.v .bool) .unit), [], [], [], [], []⟩
noncomputable def h_spec_l2Need : FnH := ⟨172, Try.f172, (.tup (.v (.int .i64)) .unit), (.tup (.v (.int .i64)) (.tup (.v (.int .i64)) (.tup (.v (.int .i64)) .unit))), [], [], [], [], []⟩
noncomputable def h_spec_l1Cut : FnH := ⟨196, Try.f196, (.tup (.v (.int .i64)) (.tup (.v (.int .u64)) .unit)), (.tup (.v (.int .u64)) .unit), [], [], [(0, ⟨[(0, (.v (.int .i64))), (1, (.v (.int .u64))), (5, (.v (.int .u64))), (6, (.v (.int .i64)))], [(.exit 0, [(5, (.v (.int .u64)))])], []⟩)], [], []⟩
noncomputable def h_spec_GoodWord : FnH := ⟨207, Try.f207, (.tup (.v (.int .i64)) (.tup (.v (.int .u64)) .unit)), (.tup (.v .bool) .unit), [], [], [], [], []⟩
noncomputable def h_spec_l2N : FnH := ⟨173, Try.f173, (.tup (.v (.int .i64)) (.tup (.v (.int .i64)) (.tup (.v tyNode) .unit))), (.tup (.v .bool) .unit), [], [], [], [], []⟩
noncomputable def h_spec_l2Kind : FnH := ⟨130, Try.f130, (.tup (.v (.int .i64)) (.tup (.v (.int .i64)) (.tup (.v (.sl tyNode)) .unit))), (.tup (.v (.int .i64)) .unit), [], [], [(0, ⟨[(0, (.v (.int .i64))), (1, (.v (.int .i64))), (7, (.own 206862 (.int .i64) true)), (27, (.v (.sl tyNode))), (28, (.v (.int .i64))), (29, (.v (.int .i64)))], [(.ret, [(6, (.v (.int .i64)))]), (.exit 0, [(7, (.own 206865 (.int .i64) true))])], []⟩), (2, ⟨[(0, (.v (.int .i64))), (1, (.v (.int .i64))), (7, (.own 206863 (.int .i64) true)), (10, (.v (.int .i64))), (11, (.v (.int .i64))), (12, (.v (.int .i64))), (27, (.v (.sl tyNode))), (28, (.v (.int .i64))), (29, (.v (.int .i64)))], [(.ret, [(6, (.v (.int .i64)))]), (.exit 2, [(7, (.own 206864 (.int .i64) true))])], [0, 1, 12, 27, 28, 29]⟩)], [], []⟩
noncomputable def h_spec_l7Asks : FnH := ⟨70, Try.f70, (.tup (.v tyProgram) (.tup (.v (.sl tyNode)) .unit)), (.tup (.v .bool) .unit), [], [], [], [], []⟩
noncomputable def h_spec_l7Command : FnH := ⟨170, Try.f170, (.tup (.v tyProgram) (.tup (.v tyCommand) .unit)), (.tup (.v .bool) .unit), [], [], [(0, ⟨[(2, (.sp tyProgram)), (3, (.sp tyCommand)), (21, (.v (.sl tyChange))), (22, (.v (.int .i64))), (23, (.v (.int .i64)))], [(.ret, [(4, (.v .bool))]), (.exit 0, [])], []⟩)], [], []⟩
noncomputable def h_spec_GoodProgram : FnH := ⟨129, Try.f129, (.tup (.v tyProgram) .unit), (.tup (.v .bool) .unit), [], [], [(0, ⟨[(1, (.sp tyProgram)), (18, (.v (.sl tyCommand))), (19, (.v (.int .i64))), (20, (.v (.int .i64)))], [(.ret, [(2, (.v .bool))]), (.exit 0, [])], []⟩)], [], []⟩
noncomputable def h_spec_l1Both : FnH := ⟨223, Try.f223, (.tup (.v (.int .i64)) (.tup (.v (.int .u64)) (.tup (.v (.int .u64)) .unit))), (.tup (.v .bool) .unit), [], [], [], [], []⟩
noncomputable def h_spec_GoodSpan : FnH := ⟨195, Try.f195, (.tup (.v (.int .i64)) (.tup (.v tySpan) .unit)), (.tup (.v .bool) .unit), [], [], [], [], []⟩
noncomputable def h_spec_l18Spans : FnH := ⟨163, Try.f163, (.tup (.v (.int .i64)) (.tup (.v (.sl tySpan)) .unit)), (.tup (.v .bool) .unit), [], [], [(0, ⟨[(0, (.v (.int .i64))), (11, (.v (.sl tySpan))), (12, (.v (.int .i64))), (13, (.v (.int .i64)))], [(.ret, [(4, (.v .bool))]), (.exit 0, [])], []⟩)], [], []⟩
noncomputable def h_spec_l18For : FnH := ⟨120, Try.f120, (.tup (.v tyProgram) (.tup (.v (.sl tySpan)) .unit)), (.tup (.v .bool) .unit), [], [], [], [], []⟩
noncomputable def h_spec_l2From : FnH := ⟨197, Try.f197, (.tup (.v (.sl tyNode)) (.tup (.v (.int .i64)) .unit)), (.tup (.v (.int .i64)) .unit), [], [], [(0, ⟨[(0, (.v (.sl tyNode))), (5, (.v (.int .i64))), (8, (.v (.int .i64)))], [(.exit 0, [(8, (.v (.int .i64)))])], []⟩)], [], []⟩
noncomputable def h_spec_l18Fits : FnH := ⟨224, Try.f224, (.tup (.v (.int .i64)) (.tup (.v (.int .u64)) (.tup (.v (.int .u64)) .unit))), (.tup (.v .bool) .unit), [], [], [], [], []⟩
noncomputable def h_spec_l18Least : FnH := ⟨200, Try.f200, (.tup (.v (.int .u64)) (.tup (.v (.int .u64)) .unit)), (.tup (.v (.int .u64)) .unit), [], [], [], [], []⟩
noncomputable def h_spec_l18Most : FnH := ⟨201, Try.f201, (.tup (.v (.int .u64)) (.tup (.v (.int .u64)) .unit)), (.tup (.v (.int .u64)) .unit), [], [], [], [], []⟩
noncomputable def h_spec_l18Num : FnH := ⟨198, Try.f198, (.tup (.v (.int .i64)) (.tup (.v (.int .i64)) (.tup (.v tySpan) (.tup (.v tySpan) .unit)))), (.tup (.v tySpan) .unit), [], [], [], [], []⟩
noncomputable def h_spec_l18Ask : FnH := ⟨199, Try.f199, (.tup (.v (.int .i64)) (.tup (.v tySpan) (.tup (.v tySpan) .unit))), (.tup (.v tySpan) .unit), [], [], [], [], []⟩
noncomputable def h_spec_l18Of : FnH := ⟨164, Try.f164, (.tup (.v (.int .i64)) (.tup (.v (.sl tyNode)) (.tup (.v (.int .i64)) (.tup (.v (.sl tySpan)) .unit)))), (.tup (.v tySpan) .unit), [], [], [], [], []⟩
noncomputable def h_spec_l18Join : FnH := ⟨165, Try.f165, (.tup (.v tySpan) (.tup (.v tySpan) .unit)), (.tup (.v tySpan) .unit), [], [], [], [], []⟩
noncomputable def h_spec_l18Round : FnH := ⟨121, Try.f121, (.tup (.v tyProgram) (.tup (.v (.sl tySpan)) .unit)), (.tup (.own 206869 tySpan true) .unit), [], [], [(0, ⟨[(1, (.v (.sl tySpan))), (2, (.sp tyProgram)), (5, (.own 206868 tySpan true)), (15, (.v (.sl tyCommand))), (16, (.v (.int .i64))), (17, (.v (.int .i64)))], [(.exit 0, [(1206868, (.own 206868 tySpan true))])], [5]⟩), (2, ⟨[(1, (.v (.sl tySpan))), (2, (.sp tyProgram)), (5, (.own 206867 tySpan true)), (15, (.v (.sl tyCommand))), (16, (.v (.int .i64))), (17, (.v (.int .i64))), (35, (.v (.sl tyChange))), (36, (.v (.int .i64))), (37, (.v (.int .i64)))], [(.exit 2, [(1206867, (.own 206867 tySpan true))])], [1, 2, 5, 15, 16, 17]⟩)], [], []⟩
noncomputable def h_spec_SettleSpans : FnH := ⟨66, Try.f66, (.tup (.v tyProgram) (.tup (.v (.sl tySpan)) (.tup (.v (.int .i64)) .unit))), (.tup (.own 206871 tySpan true) (.tup (.v .bool) (.tup (.v .bool) .unit))), [], [], [(0, ⟨[(2, (.v (.int .i64))), (3, (.sp tyProgram)), (9, (.own 206866 tySpan true))], [(.exit 0, [(9, (.own 206870 tySpan true))])], [3]⟩), (2, ⟨[(9, (.v (.sl tySpan))), (10, (.v .bool)), (34, (.v (.sl tySpan))), (35, (.v (.int .i64))), (36, (.v (.int .i64)))], [(.exit 2, [(10, (.v .bool))])], [9]⟩)], [], []⟩
noncomputable def h_impl_isWide : FnH := ⟨177, Try.f177, (.tup (.v (.int .i64)) .unit), (.tup (.v .bool) .unit), [], [], [], [], []⟩
noncomputable def h_impl_isVars : FnH := ⟨178, Try.f178, (.tup (.v (.int .i64)) .unit), (.tup (.v .bool) .unit), [], [], [], [], []⟩
noncomputable def h_impl_operandsOf : FnH := ⟨212, Try.f212, (.tup (.v (.int .i64)) .unit), (.tup (.v (.int .i64)) (.tup (.v (.int .i64)) (.tup (.v (.int .i64)) .unit))), [], [], [], [], []⟩
noncomputable def h_impl_mask : FnH := ⟨143, Try.f143, (.tup (.v (.int .i64)) .unit), (.tup (.v (.int .u64)) .unit), [], [], [], [], []⟩
noncomputable def h_impl_GoodWord : FnH := ⟨226, Try.f226, (.tup (.v (.int .i64)) (.tup (.v (.int .u64)) .unit)), (.tup (.v .bool) .unit), [], [], [], [], []⟩
noncomputable def h_impl_isLeafRight : FnH := ⟨213, Try.f213, (.tup (.v (.int .i64)) (.tup (.v (.int .i64)) (.tup (.v tyNode) .unit))), (.tup (.v .bool) .unit), [], [], [], [], []⟩
noncomputable def h_impl_GoodTerm_1 : FnH := ⟨214, Try.f214, (.tup (.v (.int .i64)) (.tup (.sp (.int .i64)) .unit)), (.tup (.v .bool) .unit), [], [], [], [], []⟩
noncomputable def h_slices_IndexFunc_int_by_GoodTerm_1 : FnH := ⟨141, Try.f141, (.tup (.v (.sl (.int .i64))) (.tup (.v (.fn 214 (.pair (.int .i64) .nil))) .unit)), (.tup (.v (.int .i64)) .unit), [], [], [(0, ⟨[(0, (.v (.sl (.int .i64)))), (1, (.v (.fn 214 (.pair (.int .i64) .nil)))), (7, (.v (.int .i64))), (8, (.v (.int .i64)))], [(.ret, [(4, (.v (.int .i64)))]), (.exit 0, [])], []⟩)], [], []⟩
noncomputable def h_slices_ContainsFunc_int_by_GoodTerm_1 : FnH := ⟨88, Try.f88, (.tup (.v (.sl (.int .i64))) (.tup (.v (.fn 214 (.pair (.int .i64) .nil))) .unit)), (.tup (.v .bool) .unit), [], [], [], [], []⟩
noncomputable def h_impl_GoodTerm : FnH := ⟨182, Try.f182, (.tup (.v (.int .i64)) (.tup (.v (.int .i64)) (.tup (.v (.sl tyNode)) .unit))), (.tup (.v .bool) .unit), [], [], [(0, ⟨[(0, (.v (.int .i64))), (1, (.v (.int .i64))), (7, (.own 206872 (.int .i64) true)), (33, (.v (.sl tyNode))), (34, (.v (.int .i64))), (35, (.v (.int .i64)))], [(.ret, [(6, (.v .bool))]), (.exit 0, [(7, (.own 206873 (.int .i64) true))])], []⟩)], [], []⟩
noncomputable def h_impl_kindOf : FnH := ⟨183, Try.f183, (.tup (.v (.sl tyNode)) .unit), (.tup (.v (.int .i64)) .unit), [], [], [], [], []⟩
noncomputable def h_impl_isTermOf : FnH := ⟨140, Try.f140, (.tup (.v (.int .i64)) (.tup (.v (.int .i64)) (.tup (.v (.sl tyNode)) (.tup (.v (.int .i64)) .unit)))), (.tup (.v .bool) .unit), [], [], [], [], []⟩
noncomputable def h_impl_Program_isCondition : FnH := ⟨87, Try.f87, (.tup (.v tyProgram) (.tup (.v (.sl tyNode)) .unit)), (.tup (.v .bool) .unit), [], [], [], [], []⟩
noncomputable def h_impl_Program_isCommand : FnH := ⟨181, Try.f181, (.tup (.v tyProgram) (.tup (.v tyCommand) .unit)), (.tup (.v .bool) .unit), [], [], [(0, ⟨[(2, (.sp tyProgram)), (3, (.sp tyCommand)), (13, (.v (.sl tyChange))), (14, (.v (.int .i64))), (15, (.v (.int .i64)))], [(.ret, [(4, (.v .bool))]), (.exit 0, [])], []⟩)], [], []⟩
noncomputable def h_impl_GoodProgram_1 : FnH := ⟨180, Try.f180, (.tup (.v tyCommand) (.tup (.sp tyProgram) .unit)), (.tup (.v .bool) .unit), [], [], [], [], []⟩
noncomputable def h_slices_IndexFunc_Command_by_GoodProgram_1 : FnH := ⟨211, Try.f211, (.tup (.v (.sl tyCommand)) (.tup (.v (.fn 180 (.pair tyProgram .nil))) .unit)), (.tup (.v (.int .i64)) .unit), [], [], [(0, ⟨[(0, (.v (.sl tyCommand))), (1, (.v (.fn 180 (.pair tyProgram .nil)))), (7, (.v (.int .i64))), (8, (.v (.int .i64)))], [(.ret, [(4, (.v (.int .i64)))]), (.exit 0, [])], []⟩)], [], []⟩
noncomputable def h_slices_ContainsFunc_Command_by_GoodProgram_1 : FnH := ⟨179, Try.f179, (.tup (.v (.sl tyCommand)) (.tup (.v (.fn 180 (.pair tyProgram .nil))) .unit)), (.tup (.v .bool) .unit), [], [], [], [], []⟩
noncomputable def h_impl_GoodProgram : FnH := ⟨139, Try.f139, (.tup (.v tyProgram) .unit), (.tup (.v .bool) .unit), [], [], [], [], []⟩
noncomputable def h_impl_GoodSpan : FnH := ⟨204, Try.f204, (.tup (.v (.int .i64)) (.tup (.v tySpan) .unit)), (.tup (.v .bool) .unit), [], [], [], [], []⟩
noncomputable def h_impl_areSpans_1 : FnH := ⟨203, Try.f203, (.tup (.v tySpan) (.tup (.sp (.int .i64)) .unit)), (.tup (.v .bool) .unit), [], [], [], [], []⟩
noncomputable def h_slices_IndexFunc_Span_by_areSpans_1 : FnH := ⟨225, Try.f225, (.tup (.v (.sl tySpan)) (.tup (.v (.fn 203 (.pair (.int .i64) .nil))) .unit)), (.tup (.v (.int .i64)) .unit), [], [], [(0, ⟨[(0, (.v (.sl tySpan))), (1, (.v (.fn 203 (.pair (.int .i64) .nil)))), (7, (.v (.int .i64))), (8, (.v (.int .i64)))], [(.ret, [(4, (.v (.int .i64)))]), (.exit 0, [])], []⟩)], [], []⟩
noncomputable def h_slices_ContainsFunc_Span_by_areSpans_1 : FnH := ⟨202, Try.f202, (.tup (.v (.sl tySpan)) (.tup (.v (.fn 203 (.pair (.int .i64) .nil))) .unit)), (.tup (.v .bool) .unit), [], [], [], [], []⟩
noncomputable def h_impl_areSpans : FnH := ⟨166, Try.f166, (.tup (.v (.int .i64)) (.tup (.v (.sl tySpan)) .unit)), (.tup (.v .bool) .unit), [], [], [], [], []⟩
noncomputable def h_impl_areSpansOf : FnH := ⟨123, Try.f123, (.tup (.v tyProgram) (.tup (.v (.sl tySpan)) .unit)), (.tup (.v .bool) .unit), [], [], [], [], []⟩
noncomputable def h_slices_Clone_Span : FnH := ⟨126, Try.f126, (.tup (.v (.sl tySpan)) .unit), (.tup (.own 206874 tySpan true) .unit), [], [], [], [], []⟩
noncomputable def h_impl_sumSpan : FnH := ⟨227, Try.f227, (.tup (.v tySpan) (.tup (.v tySpan) (.tup (.v tySpan) .unit))), (.tup (.v tySpan) .unit), [], [], [], [], []⟩
noncomputable def h_bits_Mul64 : FnH := ⟨222, Try.f222, (.tup (.v (.int .u64)) (.tup (.v (.int .u64)) .unit)), (.tup (.v (.int .u64)) (.tup (.v (.int .u64)) .unit)), [], [], [], [], []⟩
noncomputable def h_impl_productSpan : FnH := ⟨228, Try.f228, (.tup (.v tySpan) (.tup (.v tySpan) (.tup (.v tySpan) .unit))), (.tup (.v tySpan) .unit), [], [], [], [], []⟩
noncomputable def h_impl_meetSpans : FnH := ⟨229, Try.f229, (.tup (.v tySpan) (.tup (.v tySpan) .unit)), (.tup (.v tySpan) (.tup (.v .bool) .unit)), [], [], [], [], []⟩
noncomputable def h_impl_comparison : FnH := ⟨230, Try.f230, (.tup (.v .bool) (.tup (.v .bool) .unit)), (.tup (.v tySpan) .unit), [], [], [], [], []⟩
noncomputable def h_impl_spanOfTwo : FnH := ⟨205, Try.f205, (.tup (.v (.int .i64)) (.tup (.v tySpan) (.tup (.v tySpan) (.tup (.v tySpan) .unit)))), (.tup (.v tySpan) .unit), [], [], [], [], []⟩
noncomputable def h_impl_spanOf : FnH := ⟨167, Try.f167, (.tup (.v (.int .i64)) (.tup (.v (.sl tyNode)) (.tup (.v (.sl tySpan)) .unit))), (.tup (.v tySpan) .unit), [], [], [(0, ⟨[(2, (.v (.sl tySpan))), (6, (.sp tySpan)), (7, (.sp tySpan)), (8, (.own 206876 tySpan true)), (16, (.v (.sl tyNode))), (17, (.v (.int .i64))), (18, (.v (.int .i64)))], [(.exit 0, [(8, (.own 206877 tySpan true))])], [6]⟩)], [], []⟩
noncomputable def h_impl_join : FnH := ⟨168, Try.f168, (.tup (.v tySpan) (.tup (.v tySpan) .unit)), (.tup (.v tySpan) .unit), [], [], [], [], []⟩
noncomputable def h_impl_spanRound : FnH := ⟨124, Try.f124, (.tup (.v tyProgram) (.tup (.v (.sl tySpan)) .unit)), (.tup (.own 206880 tySpan true) .unit), [], [], [(0, ⟨[(1, (.v (.sl tySpan))), (2, (.sp tyProgram)), (5, (.own 206879 tySpan true)), (13, (.v (.sl tyCommand))), (14, (.v (.int .i64))), (15, (.v (.int .i64)))], [(.exit 0, [(1206879, (.own 206879 tySpan true))])], [5]⟩), (2, ⟨[(1, (.v (.sl tySpan))), (2, (.sp tyProgram)), (5, (.own 206878 tySpan true)), (13, (.v (.sl tyCommand))), (14, (.v (.int .i64))), (15, (.v (.int .i64))), (28, (.v (.sl tyChange))), (29, (.v (.int .i64))), (30, (.v (.int .i64)))], [(.exit 2, [(1206878, (.own 206878 tySpan true))])], [1, 2, 5, 13, 14, 15]⟩)], [], []⟩
noncomputable def h_slices_Equal_Span : FnH := ⟨127, Try.f127, (.tup (.v (.sl tySpan)) (.tup (.v (.sl tySpan)) .unit)), (.tup (.v .bool) .unit), [], [], [(0, ⟨[(0, (.v (.sl tySpan))), (1, (.v (.sl tySpan))), (12, (.v (.int .i64))), (13, (.v (.int .i64)))], [(.ret, [(4, (.v .bool))]), (.exit 0, [])], []⟩)], [], []⟩
noncomputable def h_impl_SettleSpans : FnH := ⟨67, Try.f67, (.tup (.v tyProgram) (.tup (.v (.sl tySpan)) (.tup (.v (.int .i64)) .unit))), (.tup (.own 206882 tySpan true) (.tup (.v .bool) (.tup (.v .bool) .unit))), [], [], [(0, ⟨[(3, (.sp tyProgram)), (9, (.own 206875 tySpan true)), (24, (.v (.int .i64))), (25, (.v (.int .i64)))], [(.exit 0, [(9, (.own 206881 tySpan true))])], [3]⟩)], [], []⟩
noncomputable def h_laws_eqSpan : FnH := ⟨125, Try.f125, (.tup (.v tySpan) (.tup (.v tySpan) .unit)), (.tup (.v .bool) .unit), [], [], [], [], []⟩
noncomputable def h_laws_eqSpanS : FnH := ⟨63, Try.f63, (.tup (.v (.sl tySpan)) (.tup (.v (.sl tySpan)) .unit)), (.tup (.v .bool) .unit), [], [], [(0, ⟨[(0, (.v (.sl tySpan))), (1, (.v (.sl tySpan))), (5, (.v (.int .i64)))], [(.ret, [(4, (.v .bool))]), (.exit 0, [])], []⟩)], [], []⟩
noncomputable def h_laws_eqNode : FnH := ⟨79, Try.f79, (.tup (.v tyNode) (.tup (.v tyNode) .unit)), (.tup (.v .bool) .unit), [], [], [], [], []⟩
noncomputable def h_laws_eqNodeS : FnH := ⟨21, Try.f21, (.tup (.v (.sl tyNode)) (.tup (.v (.sl tyNode)) .unit)), (.tup (.v .bool) .unit), [], [], [(0, ⟨[(0, (.v (.sl tyNode))), (1, (.v (.sl tyNode))), (5, (.v (.int .i64)))], [(.ret, [(4, (.v .bool))]), (.exit 0, [])], []⟩)], [], []⟩
noncomputable def h_laws_eqChange : FnH := ⟨210, Try.f210, (.tup (.v tyChange) (.tup (.v tyChange) .unit)), (.tup (.v .bool) .unit), [], [], [], [], []⟩
noncomputable def h_laws_eqChangeS : FnH := ⟨176, Try.f176, (.tup (.v (.sl tyChange)) (.tup (.v (.sl tyChange)) .unit)), (.tup (.v .bool) .unit), [], [], [(0, ⟨[(0, (.v (.sl tyChange))), (1, (.v (.sl tyChange))), (5, (.v (.int .i64)))], [(.ret, [(4, (.v .bool))]), (.exit 0, [])], []⟩)], [], []⟩
noncomputable def h_laws_eqCommand : FnH := ⟨137, Try.f137, (.tup (.v tyCommand) (.tup (.v tyCommand) .unit)), (.tup (.v .bool) .unit), [], [], [], [], []⟩
noncomputable def h_laws_eqCommandS : FnH := ⟨78, Try.f78, (.tup (.v (.sl tyCommand)) (.tup (.v (.sl tyCommand)) .unit)), (.tup (.v .bool) .unit), [], [], [(0, ⟨[(0, (.v (.sl tyCommand))), (1, (.v (.sl tyCommand))), (5, (.v (.int .i64)))], [(.ret, [(4, (.v .bool))]), (.exit 0, [])], []⟩)], [], []⟩
noncomputable def h_laws_eqProgram : FnH := ⟨20, Try.f20, (.tup (.v tyProgram) (.tup (.v tyProgram) .unit)), (.tup (.v .bool) .unit), [], [], [], [], []⟩
noncomputable def h_laws_markNodeS : FnH := ⟨48, Try.f48, (.tup (.own 206884 tyNode true) (.tup (.v (.int .i64)) .unit)), (.tup (.own 206884 tyNode true) (.tup (.v (.int .i64)) .unit)), [206884], [], [(0, ⟨[(0, (.own 206883 tyNode true)), (1, (.v (.int .i64))), (5, (.v (.int .i64)))], [(.exit 0, [(1206883, (.own 206883 tyNode true)), (1, (.v (.int .i64)))])], []⟩)], [], []⟩
noncomputable def h_laws_markChangeS : FnH := ⟨148, Try.f148, (.tup (.own 206889 tyChange true) (.tup (.v (.int .i64)) .unit)), (.tup (.own 206889 tyChange true) (.tup (.v (.int .i64)) .unit)), [206889], [], [(0, ⟨[(0, (.own 206888 tyChange true)), (1, (.v (.int .i64))), (5, (.v (.int .i64)))], [(.exit 0, [(1206888, (.own 206888 tyChange true)), (1, (.v (.int .i64)))])], []⟩)], [], []⟩
noncomputable def h_laws_markCommandS : FnH := ⟨103, Try.f103, (.tup (.own 206887 tyCommand true) (.tup (.v (.int .i64)) .unit)), (.tup (.own 206887 tyCommand true) (.tup (.v (.int .i64)) .unit)), [206887], [], [(0, ⟨[(0, (.own 206886 tyCommand true)), (1, (.v (.int .i64))), (5, (.v (.int .i64)))], [(.exit 0, [(1206886, (.own 206886 tyCommand true)), (1, (.v (.int .i64)))])], []⟩)], [], []⟩
noncomputable def h_laws_markProgram : FnH := ⟨42, Try.f42, (.tup (.pair (.v (.int .i64)) (.pair (.v (.int .i64)) (.pair (.own 206885 tyNode true) (.own 206890 tyCommand true)))) (.tup (.v (.int .i64)) .unit)), (.tup (.own 206885 tyNode true) (.tup (.own 206890 tyCommand true) (.tup (.v (.int .i64)) .unit))), [206885, 206890], [], [], [], []⟩
noncomputable def h_laws_markSpanS : FnH := ⟨64, Try.f64, (.tup (.own 206892 tySpan true) (.tup (.v (.int .i64)) .unit)), (.tup (.own 206892 tySpan true) (.tup (.v (.int .i64)) .unit)), [206892], [], [(0, ⟨[(0, (.own 206891 tySpan true)), (1, (.v (.int .i64))), (5, (.v (.int .i64)))], [(.exit 0, [(1206891, (.own 206891 tySpan true)), (1, (.v (.int .i64)))])], []⟩)], [], []⟩
noncomputable def h_laws_heldSpanS : FnH := ⟨65, Try.f65, (.tup (.v (.sl tySpan)) (.tup (.v (.int .i64)) .unit)), (.tup (.v (.int .i64)) .unit), [], [], [(0, ⟨[(0, (.v (.sl tySpan))), (1, (.v (.int .i64))), (5, (.v (.int .i64)))], [(.ret, [(4, (.v (.int .i64)))]), (.exit 0, [(1, (.v (.int .i64)))])], []⟩)], [], []⟩
noncomputable def h_laws_FnExactSettleSpans : FnH := ⟨13, Try.f13, (.tup (.v tyProgram) (.tup (.v (.sl tySpan)) (.tup (.v (.int .i64)) .unit))), (.tup (.v .bool) .unit), [], [], [], [], []⟩
def extsL : List (Nat × ExtF) := [(237, ExtF.add64)]
def tysL : List (Nat × Ty) := [(3, (.int .i64)), (4, .bool), (22, (.sl tyNode)), (23, (.sl tyCommand)), (25, tyProgram), (30, (.sl tyNode)), (31, (.sl tyCommand)), (33, tyProgram), (39, (.sl (.int .i64))), (82, (.sl tySpan)), (84, (.sl tySpan)), (99, (.int .u64)), (101, tyNode), (103, tyNode), (142, tySpan), (144, tySpan), (148, (.sl tyChange)), (150, tyCommand), (155, (.sl tyChange)), (157, tyCommand), (178, tyChange), (186, (.int .u64)), (211, tyChange)]
def nfsL : List (Nat × Nat) := [(25, 4), (33, 4), (101, 2), (103, 2), (142, 2), (144, 2), (150, 2), (157, 2), (178, 2), (211, 2)]
def cellsL : List Nat := []
noncomputable def keysL : List (Nat × FnH) := [(15, h_laws_szNodeS), (206, h_laws_szChange), (169, h_laws_szChangeS), (128, h_laws_szCommand), (68, h_laws_szCommandS), (14, h_laws_szProgram), (59, h_laws_szSpanS), (74, h_laws_toNode), (18, h_laws_toNodeS), (209, h_laws_toChange), (175, h_laws_toChangeS), (135, h_laws_toCommand), (73, h_laws_toCommandS), (17, h_laws_toProgram), (122, h_laws_toSpan), (61, h_laws_toSpanS), (96, h_spec_l1In), (171, h_spec_l1Wide), (172, h_spec_l2Need), (196, h_spec_l1Cut), (207, h_spec_GoodWord), (173, h_spec_l2N), (130, h_spec_l2Kind), (70, h_spec_l7Asks), (170, h_spec_l7Command), (129, h_spec_GoodProgram), (223, h_spec_l1Both), (195, h_spec_GoodSpan), (163, h_spec_l18Spans), (120, h_spec_l18For), (197, h_spec_l2From), (224, h_spec_l18Fits), (200, h_spec_l18Least), (201, h_spec_l18Most), (198, h_spec_l18Num), (199, h_spec_l18Ask), (164, h_spec_l18Of), (165, h_spec_l18Join), (121, h_spec_l18Round), (66, h_spec_SettleSpans), (177, h_impl_isWide), (178, h_impl_isVars), (212, h_impl_operandsOf), (143, h_impl_mask), (226, h_impl_GoodWord), (213, h_impl_isLeafRight), (214, h_impl_GoodTerm_1), (141, h_slices_IndexFunc_int_by_GoodTerm_1), (88, h_slices_ContainsFunc_int_by_GoodTerm_1), (182, h_impl_GoodTerm), (183, h_impl_kindOf), (140, h_impl_isTermOf), (87, h_impl_Program_isCondition), (181, h_impl_Program_isCommand), (180, h_impl_GoodProgram_1), (211, h_slices_IndexFunc_Command_by_GoodProgram_1), (179, h_slices_ContainsFunc_Command_by_GoodProgram_1), (139, h_impl_GoodProgram), (204, h_impl_GoodSpan), (203, h_impl_areSpans_1), (225, h_slices_IndexFunc_Span_by_areSpans_1), (202, h_slices_ContainsFunc_Span_by_areSpans_1), (166, h_impl_areSpans), (123, h_impl_areSpansOf), (126, h_slices_Clone_Span), (227, h_impl_sumSpan), (222, h_bits_Mul64), (228, h_impl_productSpan), (229, h_impl_meetSpans), (230, h_impl_comparison), (205, h_impl_spanOfTwo), (167, h_impl_spanOf), (168, h_impl_join), (124, h_impl_spanRound), (127, h_slices_Equal_Span), (67, h_impl_SettleSpans), (125, h_laws_eqSpan), (63, h_laws_eqSpanS), (79, h_laws_eqNode), (21, h_laws_eqNodeS), (210, h_laws_eqChange), (176, h_laws_eqChangeS), (137, h_laws_eqCommand), (78, h_laws_eqCommandS), (20, h_laws_eqProgram), (48, h_laws_markNodeS), (148, h_laws_markChangeS), (103, h_laws_markCommandS), (42, h_laws_markProgram), (64, h_laws_markSpanS), (65, h_laws_heldSpanS), (13, h_laws_FnExactSettleSpans)]
noncomputable def H : Hints := { extF := fun f => lookupN extsL f, ty := fun T => lookupN tysL T, nf := fun T => match lookupN nfsL T with | some n => n | none => 0, cell := fun T => hasN cellsL T, key := fun k => lookupN keysL k }
noncomputable def laws_szNodeS (a : Bool × List DNode) (left_ : Int) : Option Int := (inf H).call 15 (a, left_)
noncomputable def laws_szChange (a : DChange) (left_ : Int) : Option Int := (inf H).call 206 (a, left_)
noncomputable def laws_szChangeS (a : Bool × List DChange) (left_ : Int) : Option Int := (inf H).call 169 (a, left_)
theorem key_laws_szChangeS : H.key 169 = some h_laws_szChangeS := by kernel_rfl
noncomputable def laws_szChangeS_L0 (a : Bool × List DChange) (left_ : Int) (i : Int) : Option (Int ⊕ Int) := (inf H).loop 169 0 (loopCode Try.f169 0) (a, (left_, i))
noncomputable def laws_szCommand (a : DCommand) (left_ : Int) : Option Int := (inf H).call 128 (a, left_)
noncomputable def laws_szCommandS (a : Bool × List DCommand) (left_ : Int) : Option Int := (inf H).call 68 (a, left_)
theorem key_laws_szCommandS : H.key 68 = some h_laws_szCommandS := by kernel_rfl
noncomputable def laws_szCommandS_L0 (a : Bool × List DCommand) (left_ : Int) (i : Int) : Option (Int ⊕ Int) := (inf H).loop 68 0 (loopCode Try.f68 0) (a, (left_, i))
noncomputable def laws_szProgram (a : DProgram) (left_ : Int) : Option Int := (inf H).call 14 (a, left_)
noncomputable def laws_szSpanS (a : Bool × List DSpan) (left_ : Int) : Option Int := (inf H).call 59 (a, left_)
noncomputable def laws_toNode (a : DNode) : Option DNode := (inf H).call 74 a
noncomputable def laws_toNodeS (a : Bool × List DNode) : Option (Bool × List DNode) := (inf H).call 18 a
theorem key_laws_toNodeS : H.key 18 = some h_laws_toNodeS := by kernel_rfl
noncomputable def laws_toNodeS_L0 (a : Bool × List DNode) (out : Bool × List DNode) (i : Int) : Option (Bool × List DNode) := (inf H).loop 18 0 (loopCode Try.f18 0) (a, (out, i))
noncomputable def laws_toChange (a : DChange) : Option DChange := (inf H).call 209 a
noncomputable def laws_toChangeS (a : Bool × List DChange) : Option (Bool × List DChange) := (inf H).call 175 a
theorem key_laws_toChangeS : H.key 175 = some h_laws_toChangeS := by kernel_rfl
noncomputable def laws_toChangeS_L0 (a : Bool × List DChange) (out : Bool × List DChange) (i : Int) : Option (Bool × List DChange) := (inf H).loop 175 0 (loopCode Try.f175 0) (a, (out, i))
noncomputable def laws_toCommand (a : DCommand) : Option DCommand := (inf H).call 135 a
noncomputable def laws_toCommandS (a : Bool × List DCommand) : Option (Bool × List DCommand) := (inf H).call 73 a
theorem key_laws_toCommandS : H.key 73 = some h_laws_toCommandS := by kernel_rfl
noncomputable def laws_toCommandS_L0 (a : Bool × List DCommand) (out : Bool × List DCommand) (i : Int) : Option (Bool × List DCommand) := (inf H).loop 73 0 (loopCode Try.f73 0) (a, (out, i))
noncomputable def laws_toProgram (a : DProgram) : Option DProgram := (inf H).call 17 a
noncomputable def laws_toSpan (a : DSpan) : Option DSpan := (inf H).call 122 a
noncomputable def laws_toSpanS (a : Bool × List DSpan) : Option (Bool × List DSpan) := (inf H).call 61 a
theorem key_laws_toSpanS : H.key 61 = some h_laws_toSpanS := by kernel_rfl
noncomputable def laws_toSpanS_L0 (a : Bool × List DSpan) (out : Bool × List DSpan) (i : Int) : Option (Bool × List DSpan) := (inf H).loop 61 0 (loopCode Try.f61 0) (a, (out, i))
noncomputable def spec_l1In (n : Int) (lo : Int) (hi : Int) : Option Bool := (inf H).call 96 (n, (lo, hi))
noncomputable def spec_l1Wide (wide : Int) : Option Bool := (inf H).call 171 wide
noncomputable def spec_l2Need (op : Int) : Option (Int × Int × Int) := (inf H).call 172 op
noncomputable def spec_l1Cut (wide : Int) (a : Int) : Option Int := (inf H).call 196 (wide, a)
theorem key_spec_l1Cut : H.key 196 = some h_spec_l1Cut := by kernel_rfl
noncomputable def spec_l1Cut_L0 (wide : Int) (a : Int) (out : Int) (k_ : Int) : Option Int := (inf H).loop 196 0 (loopCode Try.f196 0) (wide, (a, (out, k_)))
noncomputable def spec_GoodWord (wide : Int) (a : Int) : Option Bool := (inf H).call 207 (wide, a)
noncomputable def spec_l2N (wide : Int) (vars : Int) (n : DNode) : Option Bool := (inf H).call 173 (wide, (vars, n))
noncomputable def spec_l2Kind (wide : Int) (vars : Int) (t : Bool × List DNode) : Option Int := (inf H).call 130 (wide, (vars, t))
theorem key_spec_l2Kind : H.key 130 = some h_spec_l2Kind := by kernel_rfl
noncomputable def spec_l2Kind_L0 (wide : Int) (vars : Int) (pile : Bool × List Int) (t27 : Bool × List DNode) (t28 : Int) (t29 : Int) : Option (Int ⊕ (Bool × List Int)) := (inf H).loop 130 0 (loopCode Try.f130 0) (wide, (vars, (pile, (t27, (t28, t29)))))
noncomputable def spec_l2Kind_L2 (wide : Int) (vars : Int) (pile : Bool × List Int) (many : Int) (part : Int) (own : Int) (t27 : Bool × List DNode) (t28 : Int) (t29 : Int) : Option (Int ⊕ (Bool × List Int)) := (inf H).loop 130 2 (loopCode Try.f130 2) (wide, (vars, (pile, (many, (part, (own, (t27, (t28, t29))))))))
noncomputable def spec_l7Asks (p : DProgram) (t : Bool × List DNode) : Option Bool := (inf H).call 70 (p, t)
noncomputable def spec_l7Command (p : DProgram) (c : DCommand) : Option Bool := (inf H).call 170 (p, c)
theorem key_spec_l7Command : H.key 170 = some h_spec_l7Command := by kernel_rfl
noncomputable def spec_l7Command_L0 (p : DProgram) (c : DCommand) (t21 : Bool × List DChange) (t22 : Int) (t23 : Int) : Option (Bool ⊕ Unit) := (inf H).loop 170 0 (loopCode Try.f170 0) (p, (c, (t21, (t22, t23))))
noncomputable def spec_GoodProgram (p : DProgram) : Option Bool := (inf H).call 129 p
theorem key_spec_GoodProgram : H.key 129 = some h_spec_GoodProgram := by kernel_rfl
noncomputable def spec_GoodProgram_L0 (p : DProgram) (t18 : Bool × List DCommand) (t19 : Int) (t20 : Int) : Option (Bool ⊕ Unit) := (inf H).loop 129 0 (loopCode Try.f129 0) (p, (t18, (t19, t20)))
noncomputable def spec_l1Both (wide : Int) (a : Int) (b : Int) : Option Bool := (inf H).call 223 (wide, (a, b))
noncomputable def spec_GoodSpan (wide : Int) (s : DSpan) : Option Bool := (inf H).call 195 (wide, s)
noncomputable def spec_l18Spans (wide : Int) (spans : Bool × List DSpan) : Option Bool := (inf H).call 163 (wide, spans)
theorem key_spec_l18Spans : H.key 163 = some h_spec_l18Spans := by kernel_rfl
noncomputable def spec_l18Spans_L0 (wide : Int) (t11 : Bool × List DSpan) (t12 : Int) (t13 : Int) : Option (Bool ⊕ Unit) := (inf H).loop 163 0 (loopCode Try.f163 0) (wide, (t11, (t12, t13)))
noncomputable def spec_l18For (p : DProgram) (spans : Bool × List DSpan) : Option Bool := (inf H).call 120 (p, spans)
noncomputable def spec_l2From (t : Bool × List DNode) (k_ : Int) : Option Int := (inf H).call 197 (t, k_)
theorem key_spec_l2From : H.key 197 = some h_spec_l2From := by kernel_rfl
noncomputable def spec_l2From_L0 (t : Bool × List DNode) (many : Int) (from_ : Int) : Option Int := (inf H).loop 197 0 (loopCode Try.f197 0) (t, (many, from_))
noncomputable def spec_l18Fits (wide : Int) (a : Int) (b : Int) : Option Bool := (inf H).call 224 (wide, (a, b))
noncomputable def spec_l18Least (a : Int) (b : Int) : Option Int := (inf H).call 200 (a, b)
noncomputable def spec_l18Most (a : Int) (b : Int) : Option Int := (inf H).call 201 (a, b)
noncomputable def spec_l18Num (wide : Int) (op : Int) (a : DSpan) (b : DSpan) : Option DSpan := (inf H).call 198 (wide, (op, (a, b)))
noncomputable def spec_l18Ask (op : Int) (a : DSpan) (b : DSpan) : Option DSpan := (inf H).call 199 (op, (a, b))
noncomputable def spec_l18Of (wide : Int) (t : Bool × List DNode) (k_ : Int) (spans : Bool × List DSpan) : Option DSpan := (inf H).call 164 (wide, (t, (k_, spans)))
noncomputable def spec_l18Join (a : DSpan) (b : DSpan) : Option DSpan := (inf H).call 165 (a, b)
noncomputable def spec_l18Round (p : DProgram) (spans : Bool × List DSpan) : Option (Bool × List DSpan) := (inf H).call 121 (p, spans)
theorem key_spec_l18Round : H.key 121 = some h_spec_l18Round := by kernel_rfl
noncomputable def spec_l18Round_L0 (spans : Bool × List DSpan) (p : DProgram) (out : Bool × List DSpan) (t15 : Bool × List DCommand) (t16 : Int) (t17 : Int) : Option (Bool × List DSpan) := (inf H).loop 121 0 (loopCode Try.f121 0) (spans, (p, (out, (t15, (t16, t17)))))
noncomputable def spec_l18Round_L2 (spans : Bool × List DSpan) (p : DProgram) (out : Bool × List DSpan) (t15 : Bool × List DCommand) (t16 : Int) (t17 : Int) (t35 : Bool × List DChange) (t36 : Int) (t37 : Int) : Option (Bool × List DSpan) := (inf H).loop 121 2 (loopCode Try.f121 2) (spans, (p, (out, (t15, (t16, (t17, (t35, (t36, t37))))))))
noncomputable def spec_SettleSpans (p : DProgram) (spans : Bool × List DSpan) (rounds : Int) : Option ((Bool × List DSpan) × Bool × Bool) := (inf H).call 66 (p, (spans, rounds))
theorem key_spec_SettleSpans : H.key 66 = some h_spec_SettleSpans := by kernel_rfl
noncomputable def spec_SettleSpans_L0 (rounds : Int) (p : DProgram) (out : Bool × List DSpan) : Option (Bool × List DSpan) := (inf H).loop 66 0 (loopCode Try.f66 0) (rounds, (p, out))
noncomputable def spec_SettleSpans_L2 (out : Bool × List DSpan) (still : Bool) (t34 : Bool × List DSpan) (t35 : Int) (t36 : Int) : Option Bool := (inf H).loop 66 2 (loopCode Try.f66 2) (out, (still, (t34, (t35, t36))))
noncomputable def impl_isWide (n : Int) : Option Bool := (inf H).call 177 n
noncomputable def impl_isVars (n : Int) : Option Bool := (inf H).call 178 n
noncomputable def impl_operandsOf (op : Int) : Option (Int × Int × Int) := (inf H).call 212 op
noncomputable def impl_mask (wide : Int) : Option Int := (inf H).call 143 wide
noncomputable def impl_GoodWord (wide : Int) (a : Int) : Option Bool := (inf H).call 226 (wide, a)
noncomputable def impl_isLeafRight (wide : Int) (vars : Int) (x : DNode) : Option Bool := (inf H).call 213 (wide, (vars, x))
noncomputable def impl_GoodTerm_1 (own : Int) (a1 : Int) : Option Bool := (inf H).call 214 (own, a1)
noncomputable def slices_IndexFunc_int_by_GoodTerm_1 (s : Bool × List Int) (f : Int × Unit) : Option Int := (inf H).call 141 (s, f)
theorem key_slices_IndexFunc_int_by_GoodTerm_1 : H.key 141 = some h_slices_IndexFunc_int_by_GoodTerm_1 := by kernel_rfl
noncomputable def slices_IndexFunc_int_by_GoodTerm_1_L0 (s : Bool × List Int) (f : Int × Unit) (t7 : Int) (t8 : Int) : Option (Int ⊕ Unit) := (inf H).loop 141 0 (loopCode Try.f141 0) (s, (f, (t7, t8)))
noncomputable def slices_ContainsFunc_int_by_GoodTerm_1 (s : Bool × List Int) (f : Int × Unit) : Option Bool := (inf H).call 88 (s, f)
noncomputable def impl_GoodTerm (wide : Int) (vars : Int) (t : Bool × List DNode) : Option Bool := (inf H).call 182 (wide, (vars, t))
theorem key_impl_GoodTerm : H.key 182 = some h_impl_GoodTerm := by kernel_rfl
noncomputable def impl_GoodTerm_L0 (wide : Int) (vars : Int) (stack : Bool × List Int) (t33 : Bool × List DNode) (t34 : Int) (t35 : Int) : Option (Bool ⊕ (Bool × List Int)) := (inf H).loop 182 0 (loopCode Try.f182 0) (wide, (vars, (stack, (t33, (t34, t35)))))
noncomputable def impl_kindOf (t : Bool × List DNode) : Option Int := (inf H).call 183 t
noncomputable def impl_isTermOf (wide : Int) (vars : Int) (t : Bool × List DNode) (kind : Int) : Option Bool := (inf H).call 140 (wide, (vars, (t, kind)))
noncomputable def impl_Program_isCondition (p : DProgram) (t : Bool × List DNode) : Option Bool := (inf H).call 87 (p, t)
noncomputable def impl_Program_isCommand (p : DProgram) (c : DCommand) : Option Bool := (inf H).call 181 (p, c)
theorem key_impl_Program_isCommand : H.key 181 = some h_impl_Program_isCommand := by kernel_rfl
noncomputable def impl_Program_isCommand_L0 (p : DProgram) (c : DCommand) (t13 : Bool × List DChange) (t14 : Int) (t15 : Int) : Option (Bool ⊕ Unit) := (inf H).loop 181 0 (loopCode Try.f181 0) (p, (c, (t13, (t14, t15))))
noncomputable def impl_GoodProgram_1 (c : DCommand) (a1 : DProgram) : Option Bool := (inf H).call 180 (c, a1)
noncomputable def slices_IndexFunc_Command_by_GoodProgram_1 (s : Bool × List DCommand) (f : DProgram × Unit) : Option Int := (inf H).call 211 (s, f)
theorem key_slices_IndexFunc_Command_by_GoodProgram_1 : H.key 211 = some h_slices_IndexFunc_Command_by_GoodProgram_1 := by kernel_rfl
noncomputable def slices_IndexFunc_Command_by_GoodProgram_1_L0 (s : Bool × List DCommand) (f : DProgram × Unit) (t7 : Int) (t8 : Int) : Option (Int ⊕ Unit) := (inf H).loop 211 0 (loopCode Try.f211 0) (s, (f, (t7, t8)))
noncomputable def slices_ContainsFunc_Command_by_GoodProgram_1 (s : Bool × List DCommand) (f : DProgram × Unit) : Option Bool := (inf H).call 179 (s, f)
noncomputable def impl_GoodProgram (p : DProgram) : Option Bool := (inf H).call 139 p
noncomputable def impl_GoodSpan (wide : Int) (s : DSpan) : Option Bool := (inf H).call 204 (wide, s)
noncomputable def impl_areSpans_1 (s : DSpan) (a1 : Int) : Option Bool := (inf H).call 203 (s, a1)
noncomputable def slices_IndexFunc_Span_by_areSpans_1 (s : Bool × List DSpan) (f : Int × Unit) : Option Int := (inf H).call 225 (s, f)
theorem key_slices_IndexFunc_Span_by_areSpans_1 : H.key 225 = some h_slices_IndexFunc_Span_by_areSpans_1 := by kernel_rfl
noncomputable def slices_IndexFunc_Span_by_areSpans_1_L0 (s : Bool × List DSpan) (f : Int × Unit) (t7 : Int) (t8 : Int) : Option (Int ⊕ Unit) := (inf H).loop 225 0 (loopCode Try.f225 0) (s, (f, (t7, t8)))
noncomputable def slices_ContainsFunc_Span_by_areSpans_1 (s : Bool × List DSpan) (f : Int × Unit) : Option Bool := (inf H).call 202 (s, f)
noncomputable def impl_areSpans (wide : Int) (spans : Bool × List DSpan) : Option Bool := (inf H).call 166 (wide, spans)
noncomputable def impl_areSpansOf (p : DProgram) (spans : Bool × List DSpan) : Option Bool := (inf H).call 123 (p, spans)
noncomputable def slices_Clone_Span (s : Bool × List DSpan) : Option (Bool × List DSpan) := (inf H).call 126 s
noncomputable def impl_sumSpan (all_ : DSpan) (a : DSpan) (b : DSpan) : Option DSpan := (inf H).call 227 (all_, (a, b))
noncomputable def bits_Mul64 (x : Int) (y : Int) : Option DSpan := (inf H).call 222 (x, y)
noncomputable def impl_productSpan (all_ : DSpan) (a : DSpan) (b : DSpan) : Option DSpan := (inf H).call 228 (all_, (a, b))
noncomputable def impl_meetSpans (a : DSpan) (b : DSpan) : Option (DSpan × Bool) := (inf H).call 229 (a, b)
noncomputable def impl_comparison (yes : Bool) (no : Bool) : Option DSpan := (inf H).call 230 (yes, no)
noncomputable def impl_spanOfTwo (op : Int) (all_ : DSpan) (a : DSpan) (b : DSpan) : Option DSpan := (inf H).call 205 (op, (all_, (a, b)))
noncomputable def impl_spanOf (wide : Int) (t : Bool × List DNode) (spans : Bool × List DSpan) : Option DSpan := (inf H).call 167 (wide, (t, spans))
theorem key_impl_spanOf : H.key 167 = some h_impl_spanOf := by kernel_rfl
noncomputable def impl_spanOf_L0 (spans : Bool × List DSpan) (t6 : DSpan) (all_ : DSpan) (stack : Bool × List DSpan) (t16 : Bool × List DNode) (t17 : Int) (t18 : Int) : Option (Bool × List DSpan) := (inf H).loop 167 0 (loopCode Try.f167 0) (spans, (t6, (all_, (stack, (t16, (t17, t18))))))
noncomputable def impl_join (a : DSpan) (b : DSpan) : Option DSpan := (inf H).call 168 (a, b)
noncomputable def impl_spanRound (p : DProgram) (spans : Bool × List DSpan) : Option (Bool × List DSpan) := (inf H).call 124 (p, spans)
theorem key_impl_spanRound : H.key 124 = some h_impl_spanRound := by kernel_rfl
noncomputable def impl_spanRound_L0 (spans : Bool × List DSpan) (p : DProgram) (out : Bool × List DSpan) (t13 : Bool × List DCommand) (t14 : Int) (t15 : Int) : Option (Bool × List DSpan) := (inf H).loop 124 0 (loopCode Try.f124 0) (spans, (p, (out, (t13, (t14, t15)))))
noncomputable def impl_spanRound_L2 (spans : Bool × List DSpan) (p : DProgram) (out : Bool × List DSpan) (t13 : Bool × List DCommand) (t14 : Int) (t15 : Int) (t28 : Bool × List DChange) (t29 : Int) (t30 : Int) : Option (Bool × List DSpan) := (inf H).loop 124 2 (loopCode Try.f124 2) (spans, (p, (out, (t13, (t14, (t15, (t28, (t29, t30))))))))
noncomputable def slices_Equal_Span (s1 : Bool × List DSpan) (s2 : Bool × List DSpan) : Option Bool := (inf H).call 127 (s1, s2)
theorem key_slices_Equal_Span : H.key 127 = some h_slices_Equal_Span := by kernel_rfl
noncomputable def slices_Equal_Span_L0 (s1 : Bool × List DSpan) (s2 : Bool × List DSpan) (t12 : Int) (t13 : Int) : Option (Bool ⊕ Unit) := (inf H).loop 127 0 (loopCode Try.f127 0) (s1, (s2, (t12, t13)))
noncomputable def impl_SettleSpans (p : DProgram) (spans : Bool × List DSpan) (rounds : Int) : Option ((Bool × List DSpan) × Bool × Bool) := (inf H).call 67 (p, (spans, rounds))
theorem key_impl_SettleSpans : H.key 67 = some h_impl_SettleSpans := by kernel_rfl
noncomputable def impl_SettleSpans_L0 (p : DProgram) (out : Bool × List DSpan) (t24 : Int) (t25 : Int) : Option (Bool × List DSpan) := (inf H).loop 67 0 (loopCode Try.f67 0) (p, (out, (t24, t25)))
noncomputable def laws_eqSpan (a : DSpan) (b : DSpan) : Option Bool := (inf H).call 125 (a, b)
noncomputable def laws_eqSpanS (a : Bool × List DSpan) (b : Bool × List DSpan) : Option Bool := (inf H).call 63 (a, b)
theorem key_laws_eqSpanS : H.key 63 = some h_laws_eqSpanS := by kernel_rfl
noncomputable def laws_eqSpanS_L0 (a : Bool × List DSpan) (b : Bool × List DSpan) (i : Int) : Option (Bool ⊕ Unit) := (inf H).loop 63 0 (loopCode Try.f63 0) (a, (b, i))
noncomputable def laws_eqNode (a : DNode) (b : DNode) : Option Bool := (inf H).call 79 (a, b)
noncomputable def laws_eqNodeS (a : Bool × List DNode) (b : Bool × List DNode) : Option Bool := (inf H).call 21 (a, b)
theorem key_laws_eqNodeS : H.key 21 = some h_laws_eqNodeS := by kernel_rfl
noncomputable def laws_eqNodeS_L0 (a : Bool × List DNode) (b : Bool × List DNode) (i : Int) : Option (Bool ⊕ Unit) := (inf H).loop 21 0 (loopCode Try.f21 0) (a, (b, i))
noncomputable def laws_eqChange (a : DChange) (b : DChange) : Option Bool := (inf H).call 210 (a, b)
noncomputable def laws_eqChangeS (a : Bool × List DChange) (b : Bool × List DChange) : Option Bool := (inf H).call 176 (a, b)
theorem key_laws_eqChangeS : H.key 176 = some h_laws_eqChangeS := by kernel_rfl
noncomputable def laws_eqChangeS_L0 (a : Bool × List DChange) (b : Bool × List DChange) (i : Int) : Option (Bool ⊕ Unit) := (inf H).loop 176 0 (loopCode Try.f176 0) (a, (b, i))
noncomputable def laws_eqCommand (a : DCommand) (b : DCommand) : Option Bool := (inf H).call 137 (a, b)
noncomputable def laws_eqCommandS (a : Bool × List DCommand) (b : Bool × List DCommand) : Option Bool := (inf H).call 78 (a, b)
theorem key_laws_eqCommandS : H.key 78 = some h_laws_eqCommandS := by kernel_rfl
noncomputable def laws_eqCommandS_L0 (a : Bool × List DCommand) (b : Bool × List DCommand) (i : Int) : Option (Bool ⊕ Unit) := (inf H).loop 78 0 (loopCode Try.f78 0) (a, (b, i))
noncomputable def laws_eqProgram (a : DProgram) (b : DProgram) : Option Bool := (inf H).call 20 (a, b)
noncomputable def laws_markNodeS (a : Bool × List DNode) (k_ : Int) : Option ((Bool × List DNode) × Int) := (inf H).call 48 (a, k_)
theorem key_laws_markNodeS : H.key 48 = some h_laws_markNodeS := by kernel_rfl
noncomputable def laws_markNodeS_L0 (a : Bool × List DNode) (k_ : Int) (i : Int) : Option ((Bool × List DNode) × Int) := (inf H).loop 48 0 (loopCode Try.f48 0) (a, (k_, i))
noncomputable def laws_markChangeS (a : Bool × List DChange) (k_ : Int) : Option ((Bool × List DChange) × Int) := (inf H).call 148 (a, k_)
theorem key_laws_markChangeS : H.key 148 = some h_laws_markChangeS := by kernel_rfl
noncomputable def laws_markChangeS_L0 (a : Bool × List DChange) (k_ : Int) (i : Int) : Option ((Bool × List DChange) × Int) := (inf H).loop 148 0 (loopCode Try.f148 0) (a, (k_, i))
noncomputable def laws_markCommandS (a : Bool × List DCommand) (k_ : Int) : Option ((Bool × List DCommand) × Int) := (inf H).call 103 (a, k_)
theorem key_laws_markCommandS : H.key 103 = some h_laws_markCommandS := by kernel_rfl
noncomputable def laws_markCommandS_L0 (a : Bool × List DCommand) (k_ : Int) (i : Int) : Option ((Bool × List DCommand) × Int) := (inf H).loop 103 0 (loopCode Try.f103 0) (a, (k_, i))
noncomputable def laws_markProgram (a0_0 : Int) (a0_1 : Int) (a0_2 : Bool × List DNode) (a0_3 : Bool × List DCommand) (k_ : Int) : Option ((Bool × List DNode) × (Bool × List DCommand) × Int) := (inf H).call 42 (a0_0, (a0_1, (a0_2, (a0_3, k_))))
noncomputable def laws_markSpanS (a : Bool × List DSpan) (k_ : Int) : Option ((Bool × List DSpan) × Int) := (inf H).call 64 (a, k_)
theorem key_laws_markSpanS : H.key 64 = some h_laws_markSpanS := by kernel_rfl
noncomputable def laws_markSpanS_L0 (a : Bool × List DSpan) (k_ : Int) (i : Int) : Option ((Bool × List DSpan) × Int) := (inf H).loop 64 0 (loopCode Try.f64 0) (a, (k_, i))
noncomputable def laws_heldSpanS (a : Bool × List DSpan) (k_ : Int) : Option Int := (inf H).call 65 (a, k_)
theorem key_laws_heldSpanS : H.key 65 = some h_laws_heldSpanS := by kernel_rfl
noncomputable def laws_heldSpanS_L0 (a : Bool × List DSpan) (k_ : Int) (i : Int) : Option (Int ⊕ Int) := (inf H).loop 65 0 (loopCode Try.f65 0) (a, (k_, i))
noncomputable def laws_FnExactSettleSpans (aP : DProgram) (aSpans : Bool × List DSpan) (aRounds : Int) : Option Bool := (inf H).call 13 (aP, (aSpans, aRounds))
theorem laws_szNodeS_eq (a : Bool × List DNode) (left_ : Int) : laws_szNodeS a left_ =
 bif decide ((IntKind.i64.wrap (left_ - (a.2.length : Int))) < 0) then
 some (-1)
else 
 some (IntKind.i64.wrap (left_ - (a.2.length : Int))) := Eq.trans (inf_call_eq (H := H) 15 (a, left_)) (by kernel_rfl)
theorem laws_szChange_eq (a : DChange) (left_ : Int) : laws_szChange a left_ =
(laws_szNodeS a.2 left_).bind fun r =>
 bif decide (r < 0) then
 some (-1)
else 
 some r := Eq.trans (inf_call_eq (H := H) 206 (a, left_)) (by kernel_rfl)
theorem laws_szChangeS_L0_eq (a : Bool × List DChange) (left_ : Int) (i : Int) : laws_szChangeS_L0 a left_ i =
 bif decide (i < (a.2.length : Int)) then
 bif decide (0 ≤ i) then
 bif decide (i < (a.2.length : Int)) then
(laws_szChange (a.2.getD (Int.toNat i) (0, (true, []))) left_).bind fun r =>
 bif decide (r < 0) then
 some (.inl (-1))
else 
(laws_szChangeS_L0 a r (IntKind.i64.wrap (i + 1))).bind fun r => some r
else none
else none
else 
 some (.inr left_) := Eq.trans (inf_loop_eq (H := H) 169 0 (loopCode Try.f169 0) (a, (left_, i)) key_laws_szChangeS) (by kernel_rfl)
theorem laws_szChangeS_eq (a : Bool × List DChange) (left_ : Int) : laws_szChangeS a left_ =
 bif decide ((IntKind.i64.wrap (left_ - (a.2.length : Int))) < 0) then
 some (-1)
else 
(laws_szChangeS_L0 a (IntKind.i64.wrap (left_ - (a.2.length : Int))) 0).bind fun r =>
 match r with
| .inl y =>
 some y
| .inr z =>
 some z := Eq.trans (inf_call_eq (H := H) 169 (a, left_)) (by kernel_rfl)
theorem laws_szCommand_eq (a : DCommand) (left_ : Int) : laws_szCommand a left_ =
(laws_szNodeS a.1 left_).bind fun r =>
 bif decide (r < 0) then
 some (-1)
else 
(laws_szChangeS a.2 r).bind fun r1 =>
 bif decide (r1 < 0) then
 some (-1)
else 
 some r1 := Eq.trans (inf_call_eq (H := H) 128 (a, left_)) (by kernel_rfl)
theorem laws_szCommandS_L0_eq (a : Bool × List DCommand) (left_ : Int) (i : Int) : laws_szCommandS_L0 a left_ i =
 bif decide (i < (a.2.length : Int)) then
 bif decide (0 ≤ i) then
 bif decide (i < (a.2.length : Int)) then
(laws_szCommand (a.2.getD (Int.toNat i) ((true, []), (true, []))) left_).bind fun r =>
 bif decide (r < 0) then
 some (.inl (-1))
else 
(laws_szCommandS_L0 a r (IntKind.i64.wrap (i + 1))).bind fun r => some r
else none
else none
else 
 some (.inr left_) := Eq.trans (inf_loop_eq (H := H) 68 0 (loopCode Try.f68 0) (a, (left_, i)) key_laws_szCommandS) (by kernel_rfl)
theorem laws_szCommandS_eq (a : Bool × List DCommand) (left_ : Int) : laws_szCommandS a left_ =
 bif decide ((IntKind.i64.wrap (left_ - (a.2.length : Int))) < 0) then
 some (-1)
else 
(laws_szCommandS_L0 a (IntKind.i64.wrap (left_ - (a.2.length : Int))) 0).bind fun r =>
 match r with
| .inl y =>
 some y
| .inr z =>
 some z := Eq.trans (inf_call_eq (H := H) 68 (a, left_)) (by kernel_rfl)
theorem laws_szProgram_eq (a : DProgram) (left_ : Int) : laws_szProgram a left_ =
(laws_szNodeS a.2.2.1 left_).bind fun r =>
 bif decide (r < 0) then
 some (-1)
else 
(laws_szCommandS a.2.2.2 r).bind fun r1 =>
 bif decide (r1 < 0) then
 some (-1)
else 
 some r1 := Eq.trans (inf_call_eq (H := H) 14 (a, left_)) (by kernel_rfl)
theorem laws_szSpanS_eq (a : Bool × List DSpan) (left_ : Int) : laws_szSpanS a left_ =
 bif decide ((IntKind.i64.wrap (left_ - (a.2.length : Int))) < 0) then
 some (-1)
else 
 some (IntKind.i64.wrap (left_ - (a.2.length : Int))) := Eq.trans (inf_call_eq (H := H) 59 (a, left_)) (by kernel_rfl)
theorem laws_toNode_eq (a : DNode) : laws_toNode a =
 some (a.1, a.2) := Eq.trans (inf_call_eq (H := H) 74 a) (by kernel_rfl)
theorem laws_toNodeS_L0_eq (a : Bool × List DNode) (out : Bool × List DNode) (i : Int) : laws_toNodeS_L0 a out i =
 bif decide (i < (a.2.length : Int)) then
 bif decide (0 ≤ i) then
 bif decide (i < (a.2.length : Int)) then
(laws_toNode (a.2.getD (Int.toNat i) (0, 0))).bind fun r =>
 bif decide (0 ≤ i) then
 bif decide (i < (out.2.length : Int)) then
(laws_toNodeS_L0 a (out.1, (out.2.set (Int.toNat i) r)) (IntKind.i64.wrap (i + 1))).bind fun r => some r
else none
else none
else none
else none
else 
 some (out.1, out.2) := Eq.trans (inf_loop_eq (H := H) 18 0 (loopCode Try.f18 0) (a, (out, i)) key_laws_toNodeS) (by kernel_rfl)
theorem laws_toNodeS_eq (a : Bool × List DNode) : laws_toNodeS a =
 bif decide (0 ≤ (a.2.length : Int)) then
 bif decide ((a.2.length : Int) ≤ lim) then
 bif decide ((a.2.length : Int) ≤ (a.2.length : Int)) then
 bif decide ((a.2.length : Int) ≤ lim) then
(laws_toNodeS_L0 a (false, (List.replicate (Int.toNat (a.2.length : Int)) ((0, 0) : DNode))) 0).bind fun r =>
 some (r.1, r.2)
else none
else none
else none
else none := Eq.trans (inf_call_eq (H := H) 18 a) (by kernel_rfl)
theorem laws_toChange_eq (a : DChange) : laws_toChange a =
(laws_toNodeS a.2).bind fun r =>
 some (a.1, (r.1, r.2)) := Eq.trans (inf_call_eq (H := H) 209 a) (by kernel_rfl)
theorem laws_toChangeS_L0_eq (a : Bool × List DChange) (out : Bool × List DChange) (i : Int) : laws_toChangeS_L0 a out i =
 bif decide (i < (a.2.length : Int)) then
 bif decide (0 ≤ i) then
 bif decide (i < (a.2.length : Int)) then
(laws_toChange (a.2.getD (Int.toNat i) (0, (true, [])))).bind fun r =>
 bif decide (0 ≤ i) then
 bif decide (i < (out.2.length : Int)) then
(laws_toChangeS_L0 a (out.1, (out.2.set (Int.toNat i) (r.1, (r.2.1, r.2.2)))) (IntKind.i64.wrap (i + 1))).bind fun r => some r
else none
else none
else none
else none
else 
 some (out.1, out.2) := Eq.trans (inf_loop_eq (H := H) 175 0 (loopCode Try.f175 0) (a, (out, i)) key_laws_toChangeS) (by kernel_rfl)
theorem laws_toChangeS_eq (a : Bool × List DChange) : laws_toChangeS a =
 bif decide (0 ≤ (a.2.length : Int)) then
 bif decide ((a.2.length : Int) ≤ lim) then
 bif decide ((a.2.length : Int) ≤ (a.2.length : Int)) then
 bif decide ((a.2.length : Int) ≤ lim) then
(laws_toChangeS_L0 a (false, (List.replicate (Int.toNat (a.2.length : Int)) ((0, (true, [])) : DChange))) 0).bind fun r =>
 some (r.1, r.2)
else none
else none
else none
else none := Eq.trans (inf_call_eq (H := H) 175 a) (by kernel_rfl)
theorem laws_toCommand_eq (a : DCommand) : laws_toCommand a =
(laws_toNodeS a.1).bind fun r =>
(laws_toChangeS a.2).bind fun r1 =>
 some ((r.1, r.2), (r1.1, r1.2)) := Eq.trans (inf_call_eq (H := H) 135 a) (by kernel_rfl)
theorem laws_toCommandS_L0_eq (a : Bool × List DCommand) (out : Bool × List DCommand) (i : Int) : laws_toCommandS_L0 a out i =
 bif decide (i < (a.2.length : Int)) then
 bif decide (0 ≤ i) then
 bif decide (i < (a.2.length : Int)) then
(laws_toCommand (a.2.getD (Int.toNat i) ((true, []), (true, [])))).bind fun r =>
 bif decide (0 ≤ i) then
 bif decide (i < (out.2.length : Int)) then
(laws_toCommandS_L0 a (out.1, (out.2.set (Int.toNat i) ((r.1.1, r.1.2), (r.2.1, r.2.2)))) (IntKind.i64.wrap (i + 1))).bind fun r => some r
else none
else none
else none
else none
else 
 some (out.1, out.2) := Eq.trans (inf_loop_eq (H := H) 73 0 (loopCode Try.f73 0) (a, (out, i)) key_laws_toCommandS) (by kernel_rfl)
theorem laws_toCommandS_eq (a : Bool × List DCommand) : laws_toCommandS a =
 bif decide (0 ≤ (a.2.length : Int)) then
 bif decide ((a.2.length : Int) ≤ lim) then
 bif decide ((a.2.length : Int) ≤ (a.2.length : Int)) then
 bif decide ((a.2.length : Int) ≤ lim) then
(laws_toCommandS_L0 a (false, (List.replicate (Int.toNat (a.2.length : Int)) (((true, []), (true, [])) : DCommand))) 0).bind fun r =>
 some (r.1, r.2)
else none
else none
else none
else none := Eq.trans (inf_call_eq (H := H) 73 a) (by kernel_rfl)
theorem laws_toProgram_eq (a : DProgram) : laws_toProgram a =
(laws_toNodeS a.2.2.1).bind fun r =>
(laws_toCommandS a.2.2.2).bind fun r1 =>
 some (a.1, (a.2.1, ((r.1, r.2), (r1.1, r1.2)))) := Eq.trans (inf_call_eq (H := H) 17 a) (by kernel_rfl)
theorem laws_toSpan_eq (a : DSpan) : laws_toSpan a =
 some (a.1, a.2) := Eq.trans (inf_call_eq (H := H) 122 a) (by kernel_rfl)
theorem laws_toSpanS_L0_eq (a : Bool × List DSpan) (out : Bool × List DSpan) (i : Int) : laws_toSpanS_L0 a out i =
 bif decide (i < (a.2.length : Int)) then
 bif decide (0 ≤ i) then
 bif decide (i < (a.2.length : Int)) then
(laws_toSpan (a.2.getD (Int.toNat i) (0, 0))).bind fun r =>
 bif decide (0 ≤ i) then
 bif decide (i < (out.2.length : Int)) then
(laws_toSpanS_L0 a (out.1, (out.2.set (Int.toNat i) r)) (IntKind.i64.wrap (i + 1))).bind fun r => some r
else none
else none
else none
else none
else 
 some (out.1, out.2) := Eq.trans (inf_loop_eq (H := H) 61 0 (loopCode Try.f61 0) (a, (out, i)) key_laws_toSpanS) (by kernel_rfl)
theorem laws_toSpanS_eq (a : Bool × List DSpan) : laws_toSpanS a =
 bif decide (0 ≤ (a.2.length : Int)) then
 bif decide ((a.2.length : Int) ≤ lim) then
 bif decide ((a.2.length : Int) ≤ (a.2.length : Int)) then
 bif decide ((a.2.length : Int) ≤ lim) then
(laws_toSpanS_L0 a (false, (List.replicate (Int.toNat (a.2.length : Int)) ((0, 0) : DSpan))) 0).bind fun r =>
 some (r.1, r.2)
else none
else none
else none
else none := Eq.trans (inf_call_eq (H := H) 61 a) (by kernel_rfl)
theorem spec_l1In_eq (n : Int) (lo : Int) (hi : Int) : spec_l1In n lo hi =
 bif decide (n ≥ lo) then
 some (decide (n ≤ hi))
else 
 some false := Eq.trans (inf_call_eq (H := H) 96 (n, (lo, hi))) (by kernel_rfl)
theorem spec_l1Wide_eq (wide : Int) : spec_l1Wide wide =
(spec_l1In wide 1 64).bind fun r =>
 some r := Eq.trans (inf_call_eq (H := H) 171 wide) (by kernel_rfl)
theorem spec_l2Need_eq (op : Int) : spec_l2Need op =
 bif (op == 1) then
 some (0, (1, 1))
else 
 bif (op == 2) then
 some (0, (1, 1))
else 
 bif (op == 20) then
 some (0, (2, 2))
else 
 bif (op == 13) then
 some (1, (1, 1))
else 
 bif (op == 19) then
 some (1, (2, 2))
else 
(spec_l1In op 3 12).bind fun r =>
 bif r then
 some (2, (1, 1))
else 
(spec_l1In op 14 16).bind fun r1 =>
 bif r1 then
 some (2, (1, 2))
else 
 bif (op == 17) then
 some (2, (2, 2))
else 
 bif (op == 18) then
 some (2, (2, 2))
else 
 some (0, (0, 0)) := Eq.trans (inf_call_eq (H := H) 172 op) (by kernel_rfl)
theorem spec_l1Cut_L0_eq (wide : Int) (a : Int) (out : Int) (k_ : Int) : spec_l1Cut_L0 wide a out k_ =
 bif decide (k_ < wide) then
 bif decide ((IntKind.u64.wrap k_) < 0) then
 none
else 
(spec_l1Cut_L0 wide a (bOr .u64 out (bAnd .u64 a (bShl .u64 1 (IntKind.u64.wrap k_)))) (IntKind.i64.wrap (k_ + 1))).bind fun r => some r
else 
 some out := Eq.trans (inf_loop_eq (H := H) 196 0 (loopCode Try.f196 0) (wide, (a, (out, k_))) key_spec_l1Cut) (by kernel_rfl)
theorem spec_l1Cut_eq (wide : Int) (a : Int) : spec_l1Cut wide a =
(spec_l1Cut_L0 wide a 0 0).bind fun r =>
 some r := Eq.trans (inf_call_eq (H := H) 196 (wide, a)) (by kernel_rfl)
theorem spec_GoodWord_eq (wide : Int) (a : Int) : spec_GoodWord wide a =
(spec_l1Wide wide).bind fun r =>
 bif r then
(spec_l1Cut wide a).bind fun r1 =>
 some (r1 == a)
else 
 some false := Eq.trans (inf_call_eq (H := H) 207 (wide, a)) (by kernel_rfl)
theorem spec_l2N_eq (wide : Int) (vars : Int) (n : DNode) : spec_l2N wide vars n =
 bif (n.1 == 1) then
(spec_GoodWord wide n.2).bind fun r =>
 some r
else 
 bif (n.1 == 2) then
 some (decide (n.2 < (IntKind.u64.wrap vars)))
else 
 bif (n.1 == 20) then
 some (decide (n.2 < 2))
else 
 some (n.2 == 0) := Eq.trans (inf_call_eq (H := H) 173 (wide, (vars, n))) (by kernel_rfl)
theorem spec_l2Kind_L0_eq (wide : Int) (vars : Int) (pile : Bool × List Int) (t27 : Bool × List DNode) (t28 : Int) (t29 : Int) : spec_l2Kind_L0 wide vars pile t27 t28 t29 =
 bif decide (t29 < t28) then
 bif decide (0 ≤ t29) then
 bif decide (t29 < (t27.2.length : Int)) then
(spec_l2Need ((t27.2.getD (Int.toNat t29) (0, 0)).1)).bind fun r =>
 bif (r.2.2 == 0) then
 some (.inl 0)
else 
(spec_l2N wide vars (t27.2.getD (Int.toNat t29) (0, 0))).bind fun r1 =>
 bif !r1 then
 some (.inl 0)
else 
 bif decide ((pile.2.length : Int) < r.1) then
 some (.inl 0)
else 
(spec_l2Kind_L2 wide vars (pile.1, pile.2) r.1 r.2.1 r.2.2 t27 t28 t29).bind fun r2 =>
 match r2 with
| .inl y =>
 some (.inl y)
| .inr z =>
 bif decide (z.2.length + [r.2.2].length ≤ lim) then
(spec_l2Kind_L0 wide vars ((z.1 && false), (z.2 ++ [r.2.2])) t27 t28 (IntKind.i64.wrap (t29 + 1))).bind fun r => some r
else none
else none
else none
else 
 some (.inr (pile.1, pile.2)) := Eq.trans (inf_loop_eq (H := H) 130 0 (loopCode Try.f130 0) (wide, (vars, (pile, (t27, (t28, t29))))) key_spec_l2Kind) (by kernel_rfl)
theorem spec_l2Kind_L2_eq (wide : Int) (vars : Int) (pile : Bool × List Int) (many : Int) (part : Int) (own : Int) (t27 : Bool × List DNode) (t28 : Int) (t29 : Int) : spec_l2Kind_L2 wide vars pile many part own t27 t28 t29 =
 bif decide (many > 0) then
 bif decide (0 ≤ (IntKind.i64.wrap ((pile.2.length : Int) - 1))) then
 bif decide ((IntKind.i64.wrap ((pile.2.length : Int) - 1)) < (pile.2.length : Int)) then
 bif ((pile.2.getD (Int.toNat (IntKind.i64.wrap ((pile.2.length : Int) - 1))) 0) != part) then
 some (.inl 0)
else 
 bif decide (0 ≤ (IntKind.i64.wrap ((pile.2.length : Int) - 1))) then
 bif decide ((IntKind.i64.wrap ((pile.2.length : Int) - 1)) ≤ (pile.2.length : Int)) then
(spec_l2Kind_L2 wide vars (pile.1, ((pile.2.take (Int.toNat (IntKind.i64.wrap ((pile.2.length : Int) - 1)))).drop 0)) (IntKind.i64.wrap (many - 1)) part own t27 t28 t29).bind fun r => some r
else none
else none
else none
else none
else 
 some (.inr (pile.1, pile.2)) := Eq.trans (inf_loop_eq (H := H) 130 2 (loopCode Try.f130 2) (wide, (vars, (pile, (many, (part, (own, (t27, (t28, t29)))))))) key_spec_l2Kind) (by kernel_rfl)
theorem spec_l2Kind_eq (wide : Int) (vars : Int) (t : Bool × List DNode) : spec_l2Kind wide vars t =
(spec_l1Wide wide).bind fun r =>
 bif !r then
 some 0
else 
(spec_l1In vars 1 4).bind fun r1 =>
 bif !r1 then
 some 0
else 
(spec_l1In (t.2.length : Int) 1 48).bind fun r2 =>
 bif !r2 then
 some 0
else 
(spec_l2Kind_L0 wide vars (true, []) t (t.2.length : Int) 0).bind fun r3 =>
 match r3 with
| .inl y =>
 some y
| .inr z =>
 bif ((z.2.length : Int) != 1) then
 some 0
else 
 bif decide (0 < (z.2.length : Int)) then
 some (z.2.getD 0 0)
else none := Eq.trans (inf_call_eq (H := H) 130 (wide, (vars, t))) (by kernel_rfl)
theorem spec_l7Asks_eq (p : DProgram) (t : Bool × List DNode) : spec_l7Asks p t =
(spec_l2Kind p.1 p.2.1 t).bind fun r =>
 some (r == 2) := Eq.trans (inf_call_eq (H := H) 70 (p, t)) (by kernel_rfl)
theorem spec_l7Command_L0_eq (p : DProgram) (c : DCommand) (t21 : Bool × List DChange) (t22 : Int) (t23 : Int) : spec_l7Command_L0 p c t21 t22 t23 =
 bif decide (t23 < t22) then
 bif decide (0 ≤ t23) then
 bif decide (t23 < (t21.2.length : Int)) then
(spec_l1In ((t21.2.getD (Int.toNat t23) (0, (true, []))).1) 0 (IntKind.i64.wrap (p.2.1 - 1))).bind fun r =>
 bif !r then
 some (.inl false)
else 
 bif decide (t23 > 0) then
 bif decide (0 ≤ (IntKind.i64.wrap (t23 - 1))) then
 bif decide ((IntKind.i64.wrap (t23 - 1)) < (c.2.2.length : Int)) then
 bif decide (((c.2.2.getD (Int.toNat (IntKind.i64.wrap (t23 - 1))) (0, (true, []))).1) ≥ ((t21.2.getD (Int.toNat t23) (0, (true, []))).1)) then
 some (.inl false)
else 
(spec_l2Kind p.1 p.2.1 ((t21.2.getD (Int.toNat t23) (0, (true, []))).2)).bind fun r1 =>
 bif (r1 != 1) then
 some (.inl false)
else 
(spec_l7Command_L0 p c t21 t22 (IntKind.i64.wrap (t23 + 1))).bind fun r => some r
else none
else none
else 
(spec_l2Kind p.1 p.2.1 ((t21.2.getD (Int.toNat t23) (0, (true, []))).2)).bind fun r2 =>
 bif (r2 != 1) then
 some (.inl false)
else 
(spec_l7Command_L0 p c t21 t22 (IntKind.i64.wrap (t23 + 1))).bind fun r => some r
else none
else none
else 
 some (.inr ()) := Eq.trans (inf_loop_eq (H := H) 170 0 (loopCode Try.f170 0) (p, (c, (t21, (t22, t23)))) key_spec_l7Command) (by kernel_rfl)
theorem spec_l7Command_eq (p : DProgram) (c : DCommand) : spec_l7Command p c =
(spec_l7Asks p c.1).bind fun r =>
 bif !r then
 some false
else 
 bif decide ((c.2.2.length : Int) > p.2.1) then
 some false
else 
(spec_l7Command_L0 p c c.2 (c.2.2.length : Int) 0).bind fun r1 =>
 match r1 with
| .inl y =>
 some y
| .inr z =>
 some true := Eq.trans (inf_call_eq (H := H) 170 (p, c)) (by kernel_rfl)
theorem spec_GoodProgram_L0_eq (p : DProgram) (t18 : Bool × List DCommand) (t19 : Int) (t20 : Int) : spec_GoodProgram_L0 p t18 t19 t20 =
 bif decide (t20 < t19) then
 bif decide (0 ≤ t20) then
 bif decide (t20 < (t18.2.length : Int)) then
(spec_l7Command p (t18.2.getD (Int.toNat t20) ((true, []), (true, [])))).bind fun r =>
 bif !r then
 some (.inl false)
else 
(spec_GoodProgram_L0 p t18 t19 (IntKind.i64.wrap (t20 + 1))).bind fun r => some r
else none
else none
else 
 some (.inr ()) := Eq.trans (inf_loop_eq (H := H) 129 0 (loopCode Try.f129 0) (p, (t18, (t19, t20))) key_spec_GoodProgram) (by kernel_rfl)
theorem spec_GoodProgram_eq (p : DProgram) : spec_GoodProgram p =
(spec_l7Asks p p.2.2.1).bind fun r =>
 bif !r then
 some false
else 
(spec_l1In (p.2.2.2.2.length : Int) 1 6).bind fun r1 =>
 bif !r1 then
 some false
else 
(spec_GoodProgram_L0 p p.2.2.2 (p.2.2.2.2.length : Int) 0).bind fun r2 =>
 match r2 with
| .inl y =>
 some y
| .inr z =>
 some true := Eq.trans (inf_call_eq (H := H) 129 p) (by kernel_rfl)
theorem spec_l1Both_eq (wide : Int) (a : Int) (b : Int) : spec_l1Both wide a b =
(spec_GoodWord wide a).bind fun r =>
 bif r then
(spec_GoodWord wide b).bind fun r1 =>
 some r1
else 
 some false := Eq.trans (inf_call_eq (H := H) 223 (wide, (a, b))) (by kernel_rfl)
theorem spec_GoodSpan_eq (wide : Int) (s : DSpan) : spec_GoodSpan wide s =
(spec_l1Both wide s.1 s.2).bind fun r =>
 bif r then
 some (decide (s.1 ≤ s.2))
else 
 some false := Eq.trans (inf_call_eq (H := H) 195 (wide, s)) (by kernel_rfl)
theorem spec_l18Spans_L0_eq (wide : Int) (t11 : Bool × List DSpan) (t12 : Int) (t13 : Int) : spec_l18Spans_L0 wide t11 t12 t13 =
 bif decide (t13 < t12) then
 bif decide (0 ≤ t13) then
 bif decide (t13 < (t11.2.length : Int)) then
(spec_GoodSpan wide (t11.2.getD (Int.toNat t13) (0, 0))).bind fun r =>
 bif !r then
 some (.inl false)
else 
(spec_l18Spans_L0 wide t11 t12 (IntKind.i64.wrap (t13 + 1))).bind fun r => some r
else none
else none
else 
 some (.inr ()) := Eq.trans (inf_loop_eq (H := H) 163 0 (loopCode Try.f163 0) (wide, (t11, (t12, t13))) key_spec_l18Spans) (by kernel_rfl)
theorem spec_l18Spans_eq (wide : Int) (spans : Bool × List DSpan) : spec_l18Spans wide spans =
(spec_l1In (spans.2.length : Int) 1 4).bind fun r =>
 bif !r then
 some false
else 
(spec_l18Spans_L0 wide spans (spans.2.length : Int) 0).bind fun r1 =>
 match r1 with
| .inl y =>
 some y
| .inr z =>
 some true := Eq.trans (inf_call_eq (H := H) 163 (wide, spans)) (by kernel_rfl)
theorem spec_l18For_eq (p : DProgram) (spans : Bool × List DSpan) : spec_l18For p spans =
(spec_GoodProgram p).bind fun r =>
 bif r then
 bif ((spans.2.length : Int) == p.2.1) then
(spec_l18Spans p.1 spans).bind fun r1 =>
 some r1
else 
 some false
else 
 some false := Eq.trans (inf_call_eq (H := H) 120 (p, spans)) (by kernel_rfl)
theorem spec_l2From_L0_eq (t : Bool × List DNode) (many : Int) (from_ : Int) : spec_l2From_L0 t many from_ =
 bif decide (many > 0) then
(spec_l2From t (IntKind.i64.wrap (from_ - 1))).bind fun r =>
(spec_l2From_L0 t (IntKind.i64.wrap (many - 1)) r).bind fun r => some r
else 
 some from_ := Eq.trans (inf_loop_eq (H := H) 197 0 (loopCode Try.f197 0) (t, (many, from_)) key_spec_l2From) (by kernel_rfl)
theorem spec_l2From_eq (t : Bool × List DNode) (k_ : Int) : spec_l2From t k_ =
 bif decide (0 ≤ k_) then
 bif decide (k_ < (t.2.length : Int)) then
(spec_l2Need ((t.2.getD (Int.toNat k_) (0, 0)).1)).bind fun r =>
(spec_l2From_L0 t r.1 k_).bind fun r1 =>
 some r1
else none
else none := Eq.trans (inf_call_eq (H := H) 197 (t, k_)) (by kernel_rfl)
theorem spec_l18Fits_eq (wide : Int) (a : Int) (b : Int) : spec_l18Fits wide a b =
 bif (b == 0) then
 some true
else 
(spec_l1Cut wide 18446744073709551615).bind fun r =>
 bif (b == 0) then
 none
else 
 some (decide (a ≤ (IntKind.u64.wrap (Int.tdiv r b)))) := Eq.trans (inf_call_eq (H := H) 224 (wide, (a, b))) (by kernel_rfl)
theorem spec_l18Least_eq (a : Int) (b : Int) : spec_l18Least a b =
 bif decide (a < b) then
 some a
else 
 some b := Eq.trans (inf_call_eq (H := H) 200 (a, b)) (by kernel_rfl)
theorem spec_l18Most_eq (a : Int) (b : Int) : spec_l18Most a b =
 bif decide (a > b) then
 some a
else 
 some b := Eq.trans (inf_call_eq (H := H) 201 (a, b)) (by kernel_rfl)
theorem spec_l18Num_eq (wide : Int) (op : Int) (a : DSpan) (b : DSpan) : spec_l18Num wide op a b =
(spec_l1Cut wide 18446744073709551615).bind fun r =>
 bif (op == 3) then
 bif decide (a.2 ≤ (IntKind.u64.wrap (r - b.2))) then
 some (IntKind.u64.wrap (a.1 + b.1), IntKind.u64.wrap (a.2 + b.2))
else 
 bif (op == 5) then
(spec_l18Fits wide a.2 b.2).bind fun r1 =>
 bif r1 then
 some (IntKind.u64.wrap (a.1 * b.1), IntKind.u64.wrap (a.2 * b.2))
else 
 bif (op == 4) then
 bif decide (a.1 ≥ b.2) then
 some (IntKind.u64.wrap (a.1 - b.2), IntKind.u64.wrap (a.2 - b.1))
else 
 bif (op == 6) then
 bif decide (b.1 > 0) then
 bif (b.2 == 0) then
 none
else 
 bif (b.1 == 0) then
 none
else 
 some (IntKind.u64.wrap (Int.tdiv a.1 b.2), IntKind.u64.wrap (Int.tdiv a.2 b.1))
else 
 bif (op == 7) then
 bif decide (b.1 > 0) then
(spec_l18Least a.2 (IntKind.u64.wrap (b.2 - 1))).bind fun r2 =>
 some (0, r2)
else 
 bif (op == 7) then
 some (0, a.2)
else 
 bif (op == 12) then
 some (0, a.2)
else 
 bif (op == 8) then
(spec_l18Least a.2 b.2).bind fun r3 =>
 some (0, r3)
else 
 bif (op == 9) then
(spec_l18Most a.1 b.1).bind fun r4 =>
 some (r4, r)
else 
 some (0, r)
else 
 bif (op == 7) then
 some (0, a.2)
else 
 bif (op == 12) then
 some (0, a.2)
else 
 bif (op == 8) then
(spec_l18Least a.2 b.2).bind fun r5 =>
 some (0, r5)
else 
 bif (op == 9) then
(spec_l18Most a.1 b.1).bind fun r6 =>
 some (r6, r)
else 
 some (0, r)
else 
 bif (op == 7) then
 bif decide (b.1 > 0) then
(spec_l18Least a.2 (IntKind.u64.wrap (b.2 - 1))).bind fun r7 =>
 some (0, r7)
else 
 bif (op == 7) then
 some (0, a.2)
else 
 bif (op == 12) then
 some (0, a.2)
else 
 bif (op == 8) then
(spec_l18Least a.2 b.2).bind fun r8 =>
 some (0, r8)
else 
 bif (op == 9) then
(spec_l18Most a.1 b.1).bind fun r9 =>
 some (r9, r)
else 
 some (0, r)
else 
 bif (op == 7) then
 some (0, a.2)
else 
 bif (op == 12) then
 some (0, a.2)
else 
 bif (op == 8) then
(spec_l18Least a.2 b.2).bind fun r10 =>
 some (0, r10)
else 
 bif (op == 9) then
(spec_l18Most a.1 b.1).bind fun r11 =>
 some (r11, r)
else 
 some (0, r)
else 
 bif (op == 6) then
 bif decide (b.1 > 0) then
 bif (b.2 == 0) then
 none
else 
 bif (b.1 == 0) then
 none
else 
 some (IntKind.u64.wrap (Int.tdiv a.1 b.2), IntKind.u64.wrap (Int.tdiv a.2 b.1))
else 
 bif (op == 7) then
 bif decide (b.1 > 0) then
(spec_l18Least a.2 (IntKind.u64.wrap (b.2 - 1))).bind fun r12 =>
 some (0, r12)
else 
 bif (op == 7) then
 some (0, a.2)
else 
 bif (op == 12) then
 some (0, a.2)
else 
 bif (op == 8) then
(spec_l18Least a.2 b.2).bind fun r13 =>
 some (0, r13)
else 
 bif (op == 9) then
(spec_l18Most a.1 b.1).bind fun r14 =>
 some (r14, r)
else 
 some (0, r)
else 
 bif (op == 7) then
 some (0, a.2)
else 
 bif (op == 12) then
 some (0, a.2)
else 
 bif (op == 8) then
(spec_l18Least a.2 b.2).bind fun r15 =>
 some (0, r15)
else 
 bif (op == 9) then
(spec_l18Most a.1 b.1).bind fun r16 =>
 some (r16, r)
else 
 some (0, r)
else 
 bif (op == 7) then
 bif decide (b.1 > 0) then
(spec_l18Least a.2 (IntKind.u64.wrap (b.2 - 1))).bind fun r17 =>
 some (0, r17)
else 
 bif (op == 7) then
 some (0, a.2)
else 
 bif (op == 12) then
 some (0, a.2)
else 
 bif (op == 8) then
(spec_l18Least a.2 b.2).bind fun r18 =>
 some (0, r18)
else 
 bif (op == 9) then
(spec_l18Most a.1 b.1).bind fun r19 =>
 some (r19, r)
else 
 some (0, r)
else 
 bif (op == 7) then
 some (0, a.2)
else 
 bif (op == 12) then
 some (0, a.2)
else 
 bif (op == 8) then
(spec_l18Least a.2 b.2).bind fun r20 =>
 some (0, r20)
else 
 bif (op == 9) then
(spec_l18Most a.1 b.1).bind fun r21 =>
 some (r21, r)
else 
 some (0, r)
else 
 bif (op == 4) then
 bif decide (a.1 ≥ b.2) then
 some (IntKind.u64.wrap (a.1 - b.2), IntKind.u64.wrap (a.2 - b.1))
else 
 bif (op == 6) then
 bif decide (b.1 > 0) then
 bif (b.2 == 0) then
 none
else 
 bif (b.1 == 0) then
 none
else 
 some (IntKind.u64.wrap (Int.tdiv a.1 b.2), IntKind.u64.wrap (Int.tdiv a.2 b.1))
else 
 bif (op == 7) then
 bif decide (b.1 > 0) then
(spec_l18Least a.2 (IntKind.u64.wrap (b.2 - 1))).bind fun r22 =>
 some (0, r22)
else 
 bif (op == 7) then
 some (0, a.2)
else 
 bif (op == 12) then
 some (0, a.2)
else 
 bif (op == 8) then
(spec_l18Least a.2 b.2).bind fun r23 =>
 some (0, r23)
else 
 bif (op == 9) then
(spec_l18Most a.1 b.1).bind fun r24 =>
 some (r24, r)
else 
 some (0, r)
else 
 bif (op == 7) then
 some (0, a.2)
else 
 bif (op == 12) then
 some (0, a.2)
else 
 bif (op == 8) then
(spec_l18Least a.2 b.2).bind fun r25 =>
 some (0, r25)
else 
 bif (op == 9) then
(spec_l18Most a.1 b.1).bind fun r26 =>
 some (r26, r)
else 
 some (0, r)
else 
 bif (op == 7) then
 bif decide (b.1 > 0) then
(spec_l18Least a.2 (IntKind.u64.wrap (b.2 - 1))).bind fun r27 =>
 some (0, r27)
else 
 bif (op == 7) then
 some (0, a.2)
else 
 bif (op == 12) then
 some (0, a.2)
else 
 bif (op == 8) then
(spec_l18Least a.2 b.2).bind fun r28 =>
 some (0, r28)
else 
 bif (op == 9) then
(spec_l18Most a.1 b.1).bind fun r29 =>
 some (r29, r)
else 
 some (0, r)
else 
 bif (op == 7) then
 some (0, a.2)
else 
 bif (op == 12) then
 some (0, a.2)
else 
 bif (op == 8) then
(spec_l18Least a.2 b.2).bind fun r30 =>
 some (0, r30)
else 
 bif (op == 9) then
(spec_l18Most a.1 b.1).bind fun r31 =>
 some (r31, r)
else 
 some (0, r)
else 
 bif (op == 6) then
 bif decide (b.1 > 0) then
 bif (b.2 == 0) then
 none
else 
 bif (b.1 == 0) then
 none
else 
 some (IntKind.u64.wrap (Int.tdiv a.1 b.2), IntKind.u64.wrap (Int.tdiv a.2 b.1))
else 
 bif (op == 7) then
 bif decide (b.1 > 0) then
(spec_l18Least a.2 (IntKind.u64.wrap (b.2 - 1))).bind fun r32 =>
 some (0, r32)
else 
 bif (op == 7) then
 some (0, a.2)
else 
 bif (op == 12) then
 some (0, a.2)
else 
 bif (op == 8) then
(spec_l18Least a.2 b.2).bind fun r33 =>
 some (0, r33)
else 
 bif (op == 9) then
(spec_l18Most a.1 b.1).bind fun r34 =>
 some (r34, r)
else 
 some (0, r)
else 
 bif (op == 7) then
 some (0, a.2)
else 
 bif (op == 12) then
 some (0, a.2)
else 
 bif (op == 8) then
(spec_l18Least a.2 b.2).bind fun r35 =>
 some (0, r35)
else 
 bif (op == 9) then
(spec_l18Most a.1 b.1).bind fun r36 =>
 some (r36, r)
else 
 some (0, r)
else 
 bif (op == 7) then
 bif decide (b.1 > 0) then
(spec_l18Least a.2 (IntKind.u64.wrap (b.2 - 1))).bind fun r37 =>
 some (0, r37)
else 
 bif (op == 7) then
 some (0, a.2)
else 
 bif (op == 12) then
 some (0, a.2)
else 
 bif (op == 8) then
(spec_l18Least a.2 b.2).bind fun r38 =>
 some (0, r38)
else 
 bif (op == 9) then
(spec_l18Most a.1 b.1).bind fun r39 =>
 some (r39, r)
else 
 some (0, r)
else 
 bif (op == 7) then
 some (0, a.2)
else 
 bif (op == 12) then
 some (0, a.2)
else 
 bif (op == 8) then
(spec_l18Least a.2 b.2).bind fun r40 =>
 some (0, r40)
else 
 bif (op == 9) then
(spec_l18Most a.1 b.1).bind fun r41 =>
 some (r41, r)
else 
 some (0, r)
else 
 bif (op == 5) then
(spec_l18Fits wide a.2 b.2).bind fun r42 =>
 bif r42 then
 some (IntKind.u64.wrap (a.1 * b.1), IntKind.u64.wrap (a.2 * b.2))
else 
 bif (op == 4) then
 bif decide (a.1 ≥ b.2) then
 some (IntKind.u64.wrap (a.1 - b.2), IntKind.u64.wrap (a.2 - b.1))
else 
 bif (op == 6) then
 bif decide (b.1 > 0) then
 bif (b.2 == 0) then
 none
else 
 bif (b.1 == 0) then
 none
else 
 some (IntKind.u64.wrap (Int.tdiv a.1 b.2), IntKind.u64.wrap (Int.tdiv a.2 b.1))
else 
 bif (op == 7) then
 bif decide (b.1 > 0) then
(spec_l18Least a.2 (IntKind.u64.wrap (b.2 - 1))).bind fun r43 =>
 some (0, r43)
else 
 bif (op == 7) then
 some (0, a.2)
else 
 bif (op == 12) then
 some (0, a.2)
else 
 bif (op == 8) then
(spec_l18Least a.2 b.2).bind fun r44 =>
 some (0, r44)
else 
 bif (op == 9) then
(spec_l18Most a.1 b.1).bind fun r45 =>
 some (r45, r)
else 
 some (0, r)
else 
 bif (op == 7) then
 some (0, a.2)
else 
 bif (op == 12) then
 some (0, a.2)
else 
 bif (op == 8) then
(spec_l18Least a.2 b.2).bind fun r46 =>
 some (0, r46)
else 
 bif (op == 9) then
(spec_l18Most a.1 b.1).bind fun r47 =>
 some (r47, r)
else 
 some (0, r)
else 
 bif (op == 7) then
 bif decide (b.1 > 0) then
(spec_l18Least a.2 (IntKind.u64.wrap (b.2 - 1))).bind fun r48 =>
 some (0, r48)
else 
 bif (op == 7) then
 some (0, a.2)
else 
 bif (op == 12) then
 some (0, a.2)
else 
 bif (op == 8) then
(spec_l18Least a.2 b.2).bind fun r49 =>
 some (0, r49)
else 
 bif (op == 9) then
(spec_l18Most a.1 b.1).bind fun r50 =>
 some (r50, r)
else 
 some (0, r)
else 
 bif (op == 7) then
 some (0, a.2)
else 
 bif (op == 12) then
 some (0, a.2)
else 
 bif (op == 8) then
(spec_l18Least a.2 b.2).bind fun r51 =>
 some (0, r51)
else 
 bif (op == 9) then
(spec_l18Most a.1 b.1).bind fun r52 =>
 some (r52, r)
else 
 some (0, r)
else 
 bif (op == 6) then
 bif decide (b.1 > 0) then
 bif (b.2 == 0) then
 none
else 
 bif (b.1 == 0) then
 none
else 
 some (IntKind.u64.wrap (Int.tdiv a.1 b.2), IntKind.u64.wrap (Int.tdiv a.2 b.1))
else 
 bif (op == 7) then
 bif decide (b.1 > 0) then
(spec_l18Least a.2 (IntKind.u64.wrap (b.2 - 1))).bind fun r53 =>
 some (0, r53)
else 
 bif (op == 7) then
 some (0, a.2)
else 
 bif (op == 12) then
 some (0, a.2)
else 
 bif (op == 8) then
(spec_l18Least a.2 b.2).bind fun r54 =>
 some (0, r54)
else 
 bif (op == 9) then
(spec_l18Most a.1 b.1).bind fun r55 =>
 some (r55, r)
else 
 some (0, r)
else 
 bif (op == 7) then
 some (0, a.2)
else 
 bif (op == 12) then
 some (0, a.2)
else 
 bif (op == 8) then
(spec_l18Least a.2 b.2).bind fun r56 =>
 some (0, r56)
else 
 bif (op == 9) then
(spec_l18Most a.1 b.1).bind fun r57 =>
 some (r57, r)
else 
 some (0, r)
else 
 bif (op == 7) then
 bif decide (b.1 > 0) then
(spec_l18Least a.2 (IntKind.u64.wrap (b.2 - 1))).bind fun r58 =>
 some (0, r58)
else 
 bif (op == 7) then
 some (0, a.2)
else 
 bif (op == 12) then
 some (0, a.2)
else 
 bif (op == 8) then
(spec_l18Least a.2 b.2).bind fun r59 =>
 some (0, r59)
else 
 bif (op == 9) then
(spec_l18Most a.1 b.1).bind fun r60 =>
 some (r60, r)
else 
 some (0, r)
else 
 bif (op == 7) then
 some (0, a.2)
else 
 bif (op == 12) then
 some (0, a.2)
else 
 bif (op == 8) then
(spec_l18Least a.2 b.2).bind fun r61 =>
 some (0, r61)
else 
 bif (op == 9) then
(spec_l18Most a.1 b.1).bind fun r62 =>
 some (r62, r)
else 
 some (0, r)
else 
 bif (op == 4) then
 bif decide (a.1 ≥ b.2) then
 some (IntKind.u64.wrap (a.1 - b.2), IntKind.u64.wrap (a.2 - b.1))
else 
 bif (op == 6) then
 bif decide (b.1 > 0) then
 bif (b.2 == 0) then
 none
else 
 bif (b.1 == 0) then
 none
else 
 some (IntKind.u64.wrap (Int.tdiv a.1 b.2), IntKind.u64.wrap (Int.tdiv a.2 b.1))
else 
 bif (op == 7) then
 bif decide (b.1 > 0) then
(spec_l18Least a.2 (IntKind.u64.wrap (b.2 - 1))).bind fun r63 =>
 some (0, r63)
else 
 bif (op == 7) then
 some (0, a.2)
else 
 bif (op == 12) then
 some (0, a.2)
else 
 bif (op == 8) then
(spec_l18Least a.2 b.2).bind fun r64 =>
 some (0, r64)
else 
 bif (op == 9) then
(spec_l18Most a.1 b.1).bind fun r65 =>
 some (r65, r)
else 
 some (0, r)
else 
 bif (op == 7) then
 some (0, a.2)
else 
 bif (op == 12) then
 some (0, a.2)
else 
 bif (op == 8) then
(spec_l18Least a.2 b.2).bind fun r66 =>
 some (0, r66)
else 
 bif (op == 9) then
(spec_l18Most a.1 b.1).bind fun r67 =>
 some (r67, r)
else 
 some (0, r)
else 
 bif (op == 7) then
 bif decide (b.1 > 0) then
(spec_l18Least a.2 (IntKind.u64.wrap (b.2 - 1))).bind fun r68 =>
 some (0, r68)
else 
 bif (op == 7) then
 some (0, a.2)
else 
 bif (op == 12) then
 some (0, a.2)
else 
 bif (op == 8) then
(spec_l18Least a.2 b.2).bind fun r69 =>
 some (0, r69)
else 
 bif (op == 9) then
(spec_l18Most a.1 b.1).bind fun r70 =>
 some (r70, r)
else 
 some (0, r)
else 
 bif (op == 7) then
 some (0, a.2)
else 
 bif (op == 12) then
 some (0, a.2)
else 
 bif (op == 8) then
(spec_l18Least a.2 b.2).bind fun r71 =>
 some (0, r71)
else 
 bif (op == 9) then
(spec_l18Most a.1 b.1).bind fun r72 =>
 some (r72, r)
else 
 some (0, r)
else 
 bif (op == 6) then
 bif decide (b.1 > 0) then
 bif (b.2 == 0) then
 none
else 
 bif (b.1 == 0) then
 none
else 
 some (IntKind.u64.wrap (Int.tdiv a.1 b.2), IntKind.u64.wrap (Int.tdiv a.2 b.1))
else 
 bif (op == 7) then
 bif decide (b.1 > 0) then
(spec_l18Least a.2 (IntKind.u64.wrap (b.2 - 1))).bind fun r73 =>
 some (0, r73)
else 
 bif (op == 7) then
 some (0, a.2)
else 
 bif (op == 12) then
 some (0, a.2)
else 
 bif (op == 8) then
(spec_l18Least a.2 b.2).bind fun r74 =>
 some (0, r74)
else 
 bif (op == 9) then
(spec_l18Most a.1 b.1).bind fun r75 =>
 some (r75, r)
else 
 some (0, r)
else 
 bif (op == 7) then
 some (0, a.2)
else 
 bif (op == 12) then
 some (0, a.2)
else 
 bif (op == 8) then
(spec_l18Least a.2 b.2).bind fun r76 =>
 some (0, r76)
else 
 bif (op == 9) then
(spec_l18Most a.1 b.1).bind fun r77 =>
 some (r77, r)
else 
 some (0, r)
else 
 bif (op == 7) then
 bif decide (b.1 > 0) then
(spec_l18Least a.2 (IntKind.u64.wrap (b.2 - 1))).bind fun r78 =>
 some (0, r78)
else 
 bif (op == 7) then
 some (0, a.2)
else 
 bif (op == 12) then
 some (0, a.2)
else 
 bif (op == 8) then
(spec_l18Least a.2 b.2).bind fun r79 =>
 some (0, r79)
else 
 bif (op == 9) then
(spec_l18Most a.1 b.1).bind fun r80 =>
 some (r80, r)
else 
 some (0, r)
else 
 bif (op == 7) then
 some (0, a.2)
else 
 bif (op == 12) then
 some (0, a.2)
else 
 bif (op == 8) then
(spec_l18Least a.2 b.2).bind fun r81 =>
 some (0, r81)
else 
 bif (op == 9) then
(spec_l18Most a.1 b.1).bind fun r82 =>
 some (r82, r)
else 
 some (0, r) := Eq.trans (inf_call_eq (H := H) 198 (wide, (op, (a, b)))) (by kernel_rfl)
theorem spec_l18Ask_eq (op : Int) (a : DSpan) (b : DSpan) : spec_l18Ask op a b =
 bif (op == 14) then
 bif decide (a.2 < b.1) then
 some (0, 0)
else 
 bif decide (b.2 < a.1) then
 some (0, 0)
else 
 bif (op == 14) then
 bif (a.1 == a.2) then
 bif ((a.1 == b.1) && (a.2 == b.2)) then
 some (1, 1)
else 
 bif (op == 15) then
 bif decide (a.2 < b.1) then
 some (1, 1)
else 
 bif (op == 15) then
 bif decide (a.1 ≥ b.2) then
 some (0, 0)
else 
 bif (op == 17) then
(spec_l18Least a.1 b.1).bind fun r =>
(spec_l18Least a.2 b.2).bind fun r1 =>
 some (r, r1)
else 
 bif (op == 18) then
(spec_l18Most a.1 b.1).bind fun r2 =>
(spec_l18Most a.2 b.2).bind fun r3 =>
 some (r2, r3)
else 
 some (0, 1)
else 
 bif (op == 17) then
(spec_l18Least a.1 b.1).bind fun r4 =>
(spec_l18Least a.2 b.2).bind fun r5 =>
 some (r4, r5)
else 
 bif (op == 18) then
(spec_l18Most a.1 b.1).bind fun r6 =>
(spec_l18Most a.2 b.2).bind fun r7 =>
 some (r6, r7)
else 
 some (0, 1)
else 
 bif (op == 15) then
 bif decide (a.1 ≥ b.2) then
 some (0, 0)
else 
 bif (op == 17) then
(spec_l18Least a.1 b.1).bind fun r8 =>
(spec_l18Least a.2 b.2).bind fun r9 =>
 some (r8, r9)
else 
 bif (op == 18) then
(spec_l18Most a.1 b.1).bind fun r10 =>
(spec_l18Most a.2 b.2).bind fun r11 =>
 some (r10, r11)
else 
 some (0, 1)
else 
 bif (op == 17) then
(spec_l18Least a.1 b.1).bind fun r12 =>
(spec_l18Least a.2 b.2).bind fun r13 =>
 some (r12, r13)
else 
 bif (op == 18) then
(spec_l18Most a.1 b.1).bind fun r14 =>
(spec_l18Most a.2 b.2).bind fun r15 =>
 some (r14, r15)
else 
 some (0, 1)
else 
 bif (op == 15) then
 bif decide (a.2 < b.1) then
 some (1, 1)
else 
 bif (op == 15) then
 bif decide (a.1 ≥ b.2) then
 some (0, 0)
else 
 bif (op == 17) then
(spec_l18Least a.1 b.1).bind fun r16 =>
(spec_l18Least a.2 b.2).bind fun r17 =>
 some (r16, r17)
else 
 bif (op == 18) then
(spec_l18Most a.1 b.1).bind fun r18 =>
(spec_l18Most a.2 b.2).bind fun r19 =>
 some (r18, r19)
else 
 some (0, 1)
else 
 bif (op == 17) then
(spec_l18Least a.1 b.1).bind fun r20 =>
(spec_l18Least a.2 b.2).bind fun r21 =>
 some (r20, r21)
else 
 bif (op == 18) then
(spec_l18Most a.1 b.1).bind fun r22 =>
(spec_l18Most a.2 b.2).bind fun r23 =>
 some (r22, r23)
else 
 some (0, 1)
else 
 bif (op == 15) then
 bif decide (a.1 ≥ b.2) then
 some (0, 0)
else 
 bif (op == 17) then
(spec_l18Least a.1 b.1).bind fun r24 =>
(spec_l18Least a.2 b.2).bind fun r25 =>
 some (r24, r25)
else 
 bif (op == 18) then
(spec_l18Most a.1 b.1).bind fun r26 =>
(spec_l18Most a.2 b.2).bind fun r27 =>
 some (r26, r27)
else 
 some (0, 1)
else 
 bif (op == 17) then
(spec_l18Least a.1 b.1).bind fun r28 =>
(spec_l18Least a.2 b.2).bind fun r29 =>
 some (r28, r29)
else 
 bif (op == 18) then
(spec_l18Most a.1 b.1).bind fun r30 =>
(spec_l18Most a.2 b.2).bind fun r31 =>
 some (r30, r31)
else 
 some (0, 1)
else 
 bif (op == 15) then
 bif decide (a.2 < b.1) then
 some (1, 1)
else 
 bif (op == 15) then
 bif decide (a.1 ≥ b.2) then
 some (0, 0)
else 
 bif (op == 17) then
(spec_l18Least a.1 b.1).bind fun r32 =>
(spec_l18Least a.2 b.2).bind fun r33 =>
 some (r32, r33)
else 
 bif (op == 18) then
(spec_l18Most a.1 b.1).bind fun r34 =>
(spec_l18Most a.2 b.2).bind fun r35 =>
 some (r34, r35)
else 
 some (0, 1)
else 
 bif (op == 17) then
(spec_l18Least a.1 b.1).bind fun r36 =>
(spec_l18Least a.2 b.2).bind fun r37 =>
 some (r36, r37)
else 
 bif (op == 18) then
(spec_l18Most a.1 b.1).bind fun r38 =>
(spec_l18Most a.2 b.2).bind fun r39 =>
 some (r38, r39)
else 
 some (0, 1)
else 
 bif (op == 15) then
 bif decide (a.1 ≥ b.2) then
 some (0, 0)
else 
 bif (op == 17) then
(spec_l18Least a.1 b.1).bind fun r40 =>
(spec_l18Least a.2 b.2).bind fun r41 =>
 some (r40, r41)
else 
 bif (op == 18) then
(spec_l18Most a.1 b.1).bind fun r42 =>
(spec_l18Most a.2 b.2).bind fun r43 =>
 some (r42, r43)
else 
 some (0, 1)
else 
 bif (op == 17) then
(spec_l18Least a.1 b.1).bind fun r44 =>
(spec_l18Least a.2 b.2).bind fun r45 =>
 some (r44, r45)
else 
 bif (op == 18) then
(spec_l18Most a.1 b.1).bind fun r46 =>
(spec_l18Most a.2 b.2).bind fun r47 =>
 some (r46, r47)
else 
 some (0, 1)
else 
 bif (op == 14) then
 bif (a.1 == a.2) then
 bif ((a.1 == b.1) && (a.2 == b.2)) then
 some (1, 1)
else 
 bif (op == 15) then
 bif decide (a.2 < b.1) then
 some (1, 1)
else 
 bif (op == 15) then
 bif decide (a.1 ≥ b.2) then
 some (0, 0)
else 
 bif (op == 17) then
(spec_l18Least a.1 b.1).bind fun r48 =>
(spec_l18Least a.2 b.2).bind fun r49 =>
 some (r48, r49)
else 
 bif (op == 18) then
(spec_l18Most a.1 b.1).bind fun r50 =>
(spec_l18Most a.2 b.2).bind fun r51 =>
 some (r50, r51)
else 
 some (0, 1)
else 
 bif (op == 17) then
(spec_l18Least a.1 b.1).bind fun r52 =>
(spec_l18Least a.2 b.2).bind fun r53 =>
 some (r52, r53)
else 
 bif (op == 18) then
(spec_l18Most a.1 b.1).bind fun r54 =>
(spec_l18Most a.2 b.2).bind fun r55 =>
 some (r54, r55)
else 
 some (0, 1)
else 
 bif (op == 15) then
 bif decide (a.1 ≥ b.2) then
 some (0, 0)
else 
 bif (op == 17) then
(spec_l18Least a.1 b.1).bind fun r56 =>
(spec_l18Least a.2 b.2).bind fun r57 =>
 some (r56, r57)
else 
 bif (op == 18) then
(spec_l18Most a.1 b.1).bind fun r58 =>
(spec_l18Most a.2 b.2).bind fun r59 =>
 some (r58, r59)
else 
 some (0, 1)
else 
 bif (op == 17) then
(spec_l18Least a.1 b.1).bind fun r60 =>
(spec_l18Least a.2 b.2).bind fun r61 =>
 some (r60, r61)
else 
 bif (op == 18) then
(spec_l18Most a.1 b.1).bind fun r62 =>
(spec_l18Most a.2 b.2).bind fun r63 =>
 some (r62, r63)
else 
 some (0, 1)
else 
 bif (op == 15) then
 bif decide (a.2 < b.1) then
 some (1, 1)
else 
 bif (op == 15) then
 bif decide (a.1 ≥ b.2) then
 some (0, 0)
else 
 bif (op == 17) then
(spec_l18Least a.1 b.1).bind fun r64 =>
(spec_l18Least a.2 b.2).bind fun r65 =>
 some (r64, r65)
else 
 bif (op == 18) then
(spec_l18Most a.1 b.1).bind fun r66 =>
(spec_l18Most a.2 b.2).bind fun r67 =>
 some (r66, r67)
else 
 some (0, 1)
else 
 bif (op == 17) then
(spec_l18Least a.1 b.1).bind fun r68 =>
(spec_l18Least a.2 b.2).bind fun r69 =>
 some (r68, r69)
else 
 bif (op == 18) then
(spec_l18Most a.1 b.1).bind fun r70 =>
(spec_l18Most a.2 b.2).bind fun r71 =>
 some (r70, r71)
else 
 some (0, 1)
else 
 bif (op == 15) then
 bif decide (a.1 ≥ b.2) then
 some (0, 0)
else 
 bif (op == 17) then
(spec_l18Least a.1 b.1).bind fun r72 =>
(spec_l18Least a.2 b.2).bind fun r73 =>
 some (r72, r73)
else 
 bif (op == 18) then
(spec_l18Most a.1 b.1).bind fun r74 =>
(spec_l18Most a.2 b.2).bind fun r75 =>
 some (r74, r75)
else 
 some (0, 1)
else 
 bif (op == 17) then
(spec_l18Least a.1 b.1).bind fun r76 =>
(spec_l18Least a.2 b.2).bind fun r77 =>
 some (r76, r77)
else 
 bif (op == 18) then
(spec_l18Most a.1 b.1).bind fun r78 =>
(spec_l18Most a.2 b.2).bind fun r79 =>
 some (r78, r79)
else 
 some (0, 1)
else 
 bif (op == 15) then
 bif decide (a.2 < b.1) then
 some (1, 1)
else 
 bif (op == 15) then
 bif decide (a.1 ≥ b.2) then
 some (0, 0)
else 
 bif (op == 17) then
(spec_l18Least a.1 b.1).bind fun r80 =>
(spec_l18Least a.2 b.2).bind fun r81 =>
 some (r80, r81)
else 
 bif (op == 18) then
(spec_l18Most a.1 b.1).bind fun r82 =>
(spec_l18Most a.2 b.2).bind fun r83 =>
 some (r82, r83)
else 
 some (0, 1)
else 
 bif (op == 17) then
(spec_l18Least a.1 b.1).bind fun r84 =>
(spec_l18Least a.2 b.2).bind fun r85 =>
 some (r84, r85)
else 
 bif (op == 18) then
(spec_l18Most a.1 b.1).bind fun r86 =>
(spec_l18Most a.2 b.2).bind fun r87 =>
 some (r86, r87)
else 
 some (0, 1)
else 
 bif (op == 15) then
 bif decide (a.1 ≥ b.2) then
 some (0, 0)
else 
 bif (op == 17) then
(spec_l18Least a.1 b.1).bind fun r88 =>
(spec_l18Least a.2 b.2).bind fun r89 =>
 some (r88, r89)
else 
 bif (op == 18) then
(spec_l18Most a.1 b.1).bind fun r90 =>
(spec_l18Most a.2 b.2).bind fun r91 =>
 some (r90, r91)
else 
 some (0, 1)
else 
 bif (op == 17) then
(spec_l18Least a.1 b.1).bind fun r92 =>
(spec_l18Least a.2 b.2).bind fun r93 =>
 some (r92, r93)
else 
 bif (op == 18) then
(spec_l18Most a.1 b.1).bind fun r94 =>
(spec_l18Most a.2 b.2).bind fun r95 =>
 some (r94, r95)
else 
 some (0, 1) := Eq.trans (inf_call_eq (H := H) 199 (op, (a, b))) (by kernel_rfl)
theorem spec_l18Of_eq (wide : Int) (t : Bool × List DNode) (k_ : Int) (spans : Bool × List DSpan) : spec_l18Of wide t k_ spans =
 bif decide (0 ≤ k_) then
 bif decide (k_ < (t.2.length : Int)) then
(spec_l2Need ((t.2.getD (Int.toNat k_) (0, 0)).1)).bind fun r =>
 bif (((t.2.getD (Int.toNat k_) (0, 0)).1) == 2) then
 bif decide (0 ≤ ((t.2.getD (Int.toNat k_) (0, 0)).2)) then
 bif decide (((t.2.getD (Int.toNat k_) (0, 0)).2) < (spans.2.length : Int)) then
 some (spans.2.getD (Int.toNat ((t.2.getD (Int.toNat k_) (0, 0)).2)) (0, 0))
else none
else none
else 
 bif (r.1 == 0) then
 some ((t.2.getD (Int.toNat k_) (0, 0)).2, (t.2.getD (Int.toNat k_) (0, 0)).2)
else 
(spec_l18Of wide t (IntKind.i64.wrap (k_ - 1)) spans).bind fun r1 =>
 bif (((t.2.getD (Int.toNat k_) (0, 0)).1) == 13) then
(spec_l1Cut wide (bXor .u64 18446744073709551615 r1.2)).bind fun r2 =>
(spec_l1Cut wide (bXor .u64 18446744073709551615 r1.1)).bind fun r3 =>
 some (r2, r3)
else 
 bif (((t.2.getD (Int.toNat k_) (0, 0)).1) == 19) then
 some (IntKind.u64.wrap (1 - r1.2), IntKind.u64.wrap (1 - r1.1))
else 
(spec_l2From t (IntKind.i64.wrap (k_ - 1))).bind fun r4 =>
(spec_l18Of wide t (IntKind.i64.wrap (r4 - 1)) spans).bind fun r5 =>
 bif (r.2.2 == 1) then
(spec_l18Num wide ((t.2.getD (Int.toNat k_) (0, 0)).1) r5 r1).bind fun r6 =>
 some r6
else 
(spec_l18Ask ((t.2.getD (Int.toNat k_) (0, 0)).1) r5 r1).bind fun r7 =>
 some r7
else none
else none := Eq.trans (inf_call_eq (H := H) 164 (wide, (t, (k_, spans)))) (by kernel_rfl)
theorem spec_l18Join_eq (a : DSpan) (b : DSpan) : spec_l18Join a b =
(spec_l18Least a.1 b.1).bind fun r =>
(spec_l18Most a.2 b.2).bind fun r1 =>
 some (r, r1) := Eq.trans (inf_call_eq (H := H) 165 (a, b)) (by kernel_rfl)
theorem spec_l18Round_L0_eq (spans : Bool × List DSpan) (p : DProgram) (out : Bool × List DSpan) (t15 : Bool × List DCommand) (t16 : Int) (t17 : Int) : spec_l18Round_L0 spans p out t15 t16 t17 =
 bif decide (t17 < t16) then
 bif decide (0 ≤ t17) then
 bif decide (t17 < (t15.2.length : Int)) then
(spec_l18Of p.1 ((t15.2.getD (Int.toNat t17) ((true, []), (true, []))).1) (IntKind.i64.wrap (((((t15.2.getD (Int.toNat t17) ((true, []), (true, []))).1).2).length : Int) - 1)) spans).bind fun r =>
 bif (r.2 == 0) then
(spec_l18Round_L0 spans p (out.1, out.2) t15 t16 (IntKind.i64.wrap (t17 + 1))).bind fun r => some r
else 
(spec_l18Round_L2 spans p (out.1, out.2) t15 t16 t17 ((t15.2.getD (Int.toNat t17) ((true, []), (true, []))).2) ((((t15.2.getD (Int.toNat t17) ((true, []), (true, []))).2).2).length : Int) 0).bind fun r1 =>
(spec_l18Round_L0 spans p (r1.1, r1.2) t15 t16 (IntKind.i64.wrap (t17 + 1))).bind fun r => some r
else none
else none
else 
 some (out.1, out.2) := Eq.trans (inf_loop_eq (H := H) 121 0 (loopCode Try.f121 0) (spans, (p, (out, (t15, (t16, t17))))) key_spec_l18Round) (by kernel_rfl)
theorem spec_l18Round_L2_eq (spans : Bool × List DSpan) (p : DProgram) (out : Bool × List DSpan) (t15 : Bool × List DCommand) (t16 : Int) (t17 : Int) (t35 : Bool × List DChange) (t36 : Int) (t37 : Int) : spec_l18Round_L2 spans p out t15 t16 t17 t35 t36 t37 =
 bif decide (t37 < t36) then
 bif decide (0 ≤ t37) then
 bif decide (t37 < (t35.2.length : Int)) then
 bif decide (0 ≤ ((t35.2.getD (Int.toNat t37) (0, (true, []))).1)) then
 bif decide (((t35.2.getD (Int.toNat t37) (0, (true, []))).1) < (out.2.length : Int)) then
(spec_l18Of p.1 ((t35.2.getD (Int.toNat t37) (0, (true, []))).2) (IntKind.i64.wrap (((((t35.2.getD (Int.toNat t37) (0, (true, []))).2).2).length : Int) - 1)) spans).bind fun r =>
(spec_l18Join (out.2.getD (Int.toNat ((t35.2.getD (Int.toNat t37) (0, (true, []))).1)) (0, 0)) r).bind fun r1 =>
 bif decide (0 ≤ ((t35.2.getD (Int.toNat t37) (0, (true, []))).1)) then
 bif decide (((t35.2.getD (Int.toNat t37) (0, (true, []))).1) < (out.2.length : Int)) then
(spec_l18Round_L2 spans p (out.1, (out.2.set (Int.toNat ((t35.2.getD (Int.toNat t37) (0, (true, []))).1)) r1)) t15 t16 t17 t35 t36 (IntKind.i64.wrap (t37 + 1))).bind fun r => some r
else none
else none
else none
else none
else none
else none
else 
 some (out.1, out.2) := Eq.trans (inf_loop_eq (H := H) 121 2 (loopCode Try.f121 2) (spans, (p, (out, (t15, (t16, (t17, (t35, (t36, t37)))))))) key_spec_l18Round) (by kernel_rfl)
theorem spec_l18Round_eq (p : DProgram) (spans : Bool × List DSpan) : spec_l18Round p spans =
 bif decide (([] : List DSpan).length + spans.2.length ≤ lim) then
(spec_l18Round_L0 spans p (false, ([] ++ spans.2)) p.2.2.2 (p.2.2.2.2.length : Int) 0).bind fun r =>
 some (r.1, r.2)
else none := Eq.trans (inf_call_eq (H := H) 121 (p, spans)) (by kernel_rfl)
theorem spec_SettleSpans_L0_eq (rounds : Int) (p : DProgram) (out : Bool × List DSpan) : spec_SettleSpans_L0 rounds p out =
 bif decide (rounds > 0) then
(spec_l18Round p (out.1, out.2)).bind fun r =>
(spec_SettleSpans_L0 (IntKind.i64.wrap (rounds - 1)) p (r.1, r.2)).bind fun r => some r
else 
 some (out.1, out.2) := Eq.trans (inf_loop_eq (H := H) 66 0 (loopCode Try.f66 0) (rounds, (p, out)) key_spec_SettleSpans) (by kernel_rfl)
theorem spec_SettleSpans_L2_eq (out : Bool × List DSpan) (still : Bool) (t34 : Bool × List DSpan) (t35 : Int) (t36 : Int) : spec_SettleSpans_L2 out still t34 t35 t36 =
 bif decide (t36 < t35) then
 bif decide (0 ≤ t36) then
 bif decide (t36 < (t34.2.length : Int)) then
 bif still then
 bif decide (0 ≤ t36) then
 bif decide (t36 < (out.2.length : Int)) then
(spec_SettleSpans_L2 out ((((t34.2.getD (Int.toNat t36) (0, 0)).1) == ((out.2.getD (Int.toNat t36) (0, 0)).1)) && (((t34.2.getD (Int.toNat t36) (0, 0)).2) == ((out.2.getD (Int.toNat t36) (0, 0)).2))) t34 t35 (IntKind.i64.wrap (t36 + 1))).bind fun r => some r
else none
else none
else 
(spec_SettleSpans_L2 out false t34 t35 (IntKind.i64.wrap (t36 + 1))).bind fun r => some r
else none
else none
else 
 some still := Eq.trans (inf_loop_eq (H := H) 66 2 (loopCode Try.f66 2) (out, (still, (t34, (t35, t36)))) key_spec_SettleSpans) (by kernel_rfl)
theorem spec_SettleSpans_eq (p : DProgram) (spans : Bool × List DSpan) (rounds : Int) : spec_SettleSpans p spans rounds =
(spec_l18For p spans).bind fun r =>
 bif !r then
 some ((true, []), (false, false))
else 
(spec_l1In rounds 0 20).bind fun r1 =>
 bif !r1 then
 some ((true, []), (false, false))
else 
 bif decide (([] : List DSpan).length + spans.2.length ≤ lim) then
(spec_SettleSpans_L0 rounds p (false, ([] ++ spans.2))).bind fun r2 =>
(spec_l18Round p (r2.1, r2.2)).bind fun r3 =>
(spec_SettleSpans_L2 (r2.1, r2.2) true (r3.1, r3.2) (r3.2.length : Int) 0).bind fun r4 =>
 some ((r2.1, r2.2), (r4, true))
else none := Eq.trans (inf_call_eq (H := H) 66 (p, (spans, rounds))) (by kernel_rfl)
theorem impl_isWide_eq (n : Int) : impl_isWide n =
 bif decide (n ≥ 1) then
 some (decide (n ≤ 64))
else 
 some false := Eq.trans (inf_call_eq (H := H) 177 n) (by kernel_rfl)
theorem impl_isVars_eq (n : Int) : impl_isVars n =
 bif decide (n ≥ 1) then
 some (decide (n ≤ 4))
else 
 some false := Eq.trans (inf_call_eq (H := H) 178 n) (by kernel_rfl)
theorem impl_operandsOf_eq (op : Int) : impl_operandsOf op =
 bif (op == 1) then
 some (0, (0, 1))
else 
 bif (op == 2) then
 some (0, (0, 1))
else 
 bif (op == 20) then
 some (0, (0, 2))
else 
 bif (op == 13) then
 some (1, (1, 1))
else 
 bif (op == 19) then
 some (1, (2, 2))
else 
 bif decide (op ≥ 3) then
 bif decide (op ≤ 12) then
 some (2, (1, 1))
else 
 bif decide (op ≥ 14) then
 bif decide (op ≤ 16) then
 some (2, (1, 2))
else 
 bif (op == 17) then
 some (2, (2, 2))
else 
 bif (op == 18) then
 some (2, (2, 2))
else 
 some (0, (0, 0))
else 
 bif (op == 17) then
 some (2, (2, 2))
else 
 bif (op == 18) then
 some (2, (2, 2))
else 
 some (0, (0, 0))
else 
 bif decide (op ≥ 14) then
 bif decide (op ≤ 16) then
 some (2, (1, 2))
else 
 bif (op == 17) then
 some (2, (2, 2))
else 
 bif (op == 18) then
 some (2, (2, 2))
else 
 some (0, (0, 0))
else 
 bif (op == 17) then
 some (2, (2, 2))
else 
 bif (op == 18) then
 some (2, (2, 2))
else 
 some (0, (0, 0)) := Eq.trans (inf_call_eq (H := H) 212 op) (by kernel_rfl)
theorem impl_mask_eq (wide : Int) : impl_mask wide =
 bif decide ((IntKind.i64.wrap (64 - wide)) < 0) then
 none
else 
 some (bShr .u64 18446744073709551615 (IntKind.i64.wrap (64 - wide))) := Eq.trans (inf_call_eq (H := H) 143 wide) (by kernel_rfl)
theorem impl_GoodWord_eq (wide : Int) (a : Int) : impl_GoodWord wide a =
(impl_isWide wide).bind fun r =>
 bif r then
(impl_mask wide).bind fun r1 =>
 some (decide (a ≤ r1))
else 
 some false := Eq.trans (inf_call_eq (H := H) 226 (wide, a)) (by kernel_rfl)
theorem impl_isLeafRight_eq (wide : Int) (vars : Int) (x : DNode) : impl_isLeafRight wide vars x =
 bif (x.1 == 1) then
(impl_GoodWord wide x.2).bind fun r =>
 some r
else 
 bif (x.1 == 2) then
 some (decide (x.2 < (IntKind.u64.wrap vars)))
else 
 bif (x.1 == 20) then
 some (decide (x.2 ≤ 1))
else 
 some (x.2 == 0) := Eq.trans (inf_call_eq (H := H) 213 (wide, (vars, x))) (by kernel_rfl)
theorem impl_GoodTerm_1_eq (own : Int) (a1 : Int) : impl_GoodTerm_1 own a1 =
 some (own != a1) := Eq.trans (inf_call_eq (H := H) 214 (own, a1)) (by kernel_rfl)
theorem slices_IndexFunc_int_by_GoodTerm_1_L0_eq (s : Bool × List Int) (f : Int × Unit) (t7 : Int) (t8 : Int) : slices_IndexFunc_int_by_GoodTerm_1_L0 s f t7 t8 =
 bif decide (t8 < t7) then
 bif decide (0 ≤ t8) then
 bif decide (t8 < (s.2.length : Int)) then
(impl_GoodTerm_1 (s.2.getD (Int.toNat t8) 0) f.1).bind fun r =>
 bif r then
 some (.inl t8)
else 
(slices_IndexFunc_int_by_GoodTerm_1_L0 s f t7 (IntKind.i64.wrap (t8 + 1))).bind fun r => some r
else none
else none
else 
 some (.inr ()) := Eq.trans (inf_loop_eq (H := H) 141 0 (loopCode Try.f141 0) (s, (f, (t7, t8))) key_slices_IndexFunc_int_by_GoodTerm_1) (by kernel_rfl)
theorem slices_IndexFunc_int_by_GoodTerm_1_eq (s : Bool × List Int) (f : Int × Unit) : slices_IndexFunc_int_by_GoodTerm_1 s f =
(slices_IndexFunc_int_by_GoodTerm_1_L0 s f (s.2.length : Int) 0).bind fun r =>
 match r with
| .inl y =>
 some y
| .inr z =>
 some (-1) := Eq.trans (inf_call_eq (H := H) 141 (s, f)) (by kernel_rfl)
theorem slices_ContainsFunc_int_by_GoodTerm_1_eq (s : Bool × List Int) (f : Int × Unit) : slices_ContainsFunc_int_by_GoodTerm_1 s f =
(slices_IndexFunc_int_by_GoodTerm_1 s f).bind fun r =>
 some (decide (r ≥ 0)) := Eq.trans (inf_call_eq (H := H) 88 (s, f)) (by kernel_rfl)
theorem impl_GoodTerm_L0_eq (wide : Int) (vars : Int) (stack : Bool × List Int) (t33 : Bool × List DNode) (t34 : Int) (t35 : Int) : impl_GoodTerm_L0 wide vars stack t33 t34 t35 =
 bif decide (t35 < t34) then
 bif decide (0 ≤ t35) then
 bif decide (t35 < (t33.2.length : Int)) then
(impl_operandsOf ((t33.2.getD (Int.toNat t35) (0, 0)).1)).bind fun r =>
 bif (r.2.2 == 0) then
 some (.inl false)
else 
(impl_isLeafRight wide vars (t33.2.getD (Int.toNat t35) (0, 0))).bind fun r1 =>
 bif !r1 then
 some (.inl false)
else 
 bif decide ((IntKind.i64.wrap ((stack.2.length : Int) - r.1)) < 0) then
 some (.inl false)
else 
 bif decide (0 ≤ (IntKind.i64.wrap ((stack.2.length : Int) - r.1))) then
 bif decide ((IntKind.i64.wrap ((stack.2.length : Int) - r.1)) ≤ (stack.2.length : Int)) then
(slices_ContainsFunc_int_by_GoodTerm_1 (stack.1, ((stack.2.take stack.2.length).drop (Int.toNat (IntKind.i64.wrap ((stack.2.length : Int) - r.1))))) (r.2.1, ())).bind fun r2 =>
 bif r2 then
 some (.inl false)
else 
 bif decide (0 ≤ (IntKind.i64.wrap ((stack.2.length : Int) - r.1))) then
 bif decide ((IntKind.i64.wrap ((stack.2.length : Int) - r.1)) ≤ (stack.2.length : Int)) then
 bif decide (((stack.2.take (Int.toNat (IntKind.i64.wrap ((stack.2.length : Int) - r.1)))).drop 0).length + [r.2.2].length ≤ lim) then
(impl_GoodTerm_L0 wide vars ((stack.1 && false), (((stack.2.take (Int.toNat (IntKind.i64.wrap ((stack.2.length : Int) - r.1)))).drop 0) ++ [r.2.2])) t33 t34 (IntKind.i64.wrap (t35 + 1))).bind fun r => some r
else none
else none
else none
else none
else none
else none
else none
else 
 some (.inr (stack.1, stack.2)) := Eq.trans (inf_loop_eq (H := H) 182 0 (loopCode Try.f182 0) (wide, (vars, (stack, (t33, (t34, t35))))) key_impl_GoodTerm) (by kernel_rfl)
theorem impl_GoodTerm_eq (wide : Int) (vars : Int) (t : Bool × List DNode) : impl_GoodTerm wide vars t =
(impl_isWide wide).bind fun r =>
 bif !r then
 some false
else 
(impl_isVars vars).bind fun r1 =>
 bif !r1 then
 some false
else 
 bif decide ((t.2.length : Int) < 1) then
 some false
else 
 bif decide ((t.2.length : Int) > 48) then
 some false
else 
(impl_GoodTerm_L0 wide vars (false, []) t (t.2.length : Int) 0).bind fun r2 =>
 match r2 with
| .inl y =>
 some y
| .inr z =>
 some ((z.2.length : Int) == 1) := Eq.trans (inf_call_eq (H := H) 182 (wide, (vars, t))) (by kernel_rfl)
theorem impl_kindOf_eq (t : Bool × List DNode) : impl_kindOf t =
 bif decide (0 ≤ (IntKind.i64.wrap ((t.2.length : Int) - 1))) then
 bif decide ((IntKind.i64.wrap ((t.2.length : Int) - 1)) < (t.2.length : Int)) then
(impl_operandsOf ((t.2.getD (Int.toNat (IntKind.i64.wrap ((t.2.length : Int) - 1))) (0, 0)).1)).bind fun r =>
 some r.2.2
else none
else none := Eq.trans (inf_call_eq (H := H) 183 t) (by kernel_rfl)
theorem impl_isTermOf_eq (wide : Int) (vars : Int) (t : Bool × List DNode) (kind : Int) : impl_isTermOf wide vars t kind =
(impl_GoodTerm wide vars t).bind fun r =>
 bif r then
(impl_kindOf t).bind fun r1 =>
 some (r1 == kind)
else 
 some false := Eq.trans (inf_call_eq (H := H) 140 (wide, (vars, (t, kind)))) (by kernel_rfl)
theorem impl_Program_isCondition_eq (p : DProgram) (t : Bool × List DNode) : impl_Program_isCondition p t =
(impl_isTermOf p.1 p.2.1 t 2).bind fun r =>
 some r := Eq.trans (inf_call_eq (H := H) 87 (p, t)) (by kernel_rfl)
theorem impl_Program_isCommand_L0_eq (p : DProgram) (c : DCommand) (t13 : Bool × List DChange) (t14 : Int) (t15 : Int) : impl_Program_isCommand_L0 p c t13 t14 t15 =
 bif decide (t15 < t14) then
 bif decide (0 ≤ t15) then
 bif decide (t15 < (t13.2.length : Int)) then
 bif decide (((t13.2.getD (Int.toNat t15) (0, (true, []))).1) < 0) then
 some (.inl false)
else 
 bif decide (((t13.2.getD (Int.toNat t15) (0, (true, []))).1) ≥ p.2.1) then
 some (.inl false)
else 
 bif decide (t15 > 0) then
 bif decide (0 ≤ (IntKind.i64.wrap (t15 - 1))) then
 bif decide ((IntKind.i64.wrap (t15 - 1)) < (c.2.2.length : Int)) then
 bif decide (((c.2.2.getD (Int.toNat (IntKind.i64.wrap (t15 - 1))) (0, (true, []))).1) ≥ ((t13.2.getD (Int.toNat t15) (0, (true, []))).1)) then
 some (.inl false)
else 
(impl_isTermOf p.1 p.2.1 ((t13.2.getD (Int.toNat t15) (0, (true, []))).2) 1).bind fun r =>
 bif !r then
 some (.inl false)
else 
(impl_Program_isCommand_L0 p c t13 t14 (IntKind.i64.wrap (t15 + 1))).bind fun r => some r
else none
else none
else 
(impl_isTermOf p.1 p.2.1 ((t13.2.getD (Int.toNat t15) (0, (true, []))).2) 1).bind fun r1 =>
 bif !r1 then
 some (.inl false)
else 
(impl_Program_isCommand_L0 p c t13 t14 (IntKind.i64.wrap (t15 + 1))).bind fun r => some r
else none
else none
else 
 some (.inr ()) := Eq.trans (inf_loop_eq (H := H) 181 0 (loopCode Try.f181 0) (p, (c, (t13, (t14, t15)))) key_impl_Program_isCommand) (by kernel_rfl)
theorem impl_Program_isCommand_eq (p : DProgram) (c : DCommand) : impl_Program_isCommand p c =
(impl_Program_isCondition p c.1).bind fun r =>
 bif !r then
 some false
else 
(impl_Program_isCommand_L0 p c c.2 (c.2.2.length : Int) 0).bind fun r1 =>
 match r1 with
| .inl y =>
 some y
| .inr z =>
 some true := Eq.trans (inf_call_eq (H := H) 181 (p, c)) (by kernel_rfl)
theorem impl_GoodProgram_1_eq (c : DCommand) (a1 : DProgram) : impl_GoodProgram_1 c a1 =
(impl_Program_isCommand a1 c).bind fun r =>
 some (!r) := Eq.trans (inf_call_eq (H := H) 180 (c, a1)) (by kernel_rfl)
theorem slices_IndexFunc_Command_by_GoodProgram_1_L0_eq (s : Bool × List DCommand) (f : DProgram × Unit) (t7 : Int) (t8 : Int) : slices_IndexFunc_Command_by_GoodProgram_1_L0 s f t7 t8 =
 bif decide (t8 < t7) then
 bif decide (0 ≤ t8) then
 bif decide (t8 < (s.2.length : Int)) then
(impl_GoodProgram_1 (s.2.getD (Int.toNat t8) ((true, []), (true, []))) f.1).bind fun r =>
 bif r then
 some (.inl t8)
else 
(slices_IndexFunc_Command_by_GoodProgram_1_L0 s f t7 (IntKind.i64.wrap (t8 + 1))).bind fun r => some r
else none
else none
else 
 some (.inr ()) := Eq.trans (inf_loop_eq (H := H) 211 0 (loopCode Try.f211 0) (s, (f, (t7, t8))) key_slices_IndexFunc_Command_by_GoodProgram_1) (by kernel_rfl)
theorem slices_IndexFunc_Command_by_GoodProgram_1_eq (s : Bool × List DCommand) (f : DProgram × Unit) : slices_IndexFunc_Command_by_GoodProgram_1 s f =
(slices_IndexFunc_Command_by_GoodProgram_1_L0 s f (s.2.length : Int) 0).bind fun r =>
 match r with
| .inl y =>
 some y
| .inr z =>
 some (-1) := Eq.trans (inf_call_eq (H := H) 211 (s, f)) (by kernel_rfl)
theorem slices_ContainsFunc_Command_by_GoodProgram_1_eq (s : Bool × List DCommand) (f : DProgram × Unit) : slices_ContainsFunc_Command_by_GoodProgram_1 s f =
(slices_IndexFunc_Command_by_GoodProgram_1 s f).bind fun r =>
 some (decide (r ≥ 0)) := Eq.trans (inf_call_eq (H := H) 179 (s, f)) (by kernel_rfl)
theorem impl_GoodProgram_eq (p : DProgram) : impl_GoodProgram p =
(impl_isWide p.1).bind fun r =>
 bif !r then
 some false
else 
(impl_isVars p.2.1).bind fun r1 =>
 bif !r1 then
 some false
else 
(impl_Program_isCondition p p.2.2.1).bind fun r2 =>
 bif !r2 then
 some false
else 
 bif decide ((p.2.2.2.2.length : Int) < 1) then
 some false
else 
 bif decide ((p.2.2.2.2.length : Int) > 6) then
 some false
else 
(slices_ContainsFunc_Command_by_GoodProgram_1 p.2.2.2 (p, ())).bind fun r3 =>
 some (!r3) := Eq.trans (inf_call_eq (H := H) 139 p) (by kernel_rfl)
theorem impl_GoodSpan_eq (wide : Int) (s : DSpan) : impl_GoodSpan wide s =
(impl_GoodWord wide s.2).bind fun r =>
 bif r then
 some (decide (s.1 ≤ s.2))
else 
 some false := Eq.trans (inf_call_eq (H := H) 204 (wide, s)) (by kernel_rfl)
theorem impl_areSpans_1_eq (s : DSpan) (a1 : Int) : impl_areSpans_1 s a1 =
(impl_GoodSpan a1 s).bind fun r =>
 some (!r) := Eq.trans (inf_call_eq (H := H) 203 (s, a1)) (by kernel_rfl)
theorem slices_IndexFunc_Span_by_areSpans_1_L0_eq (s : Bool × List DSpan) (f : Int × Unit) (t7 : Int) (t8 : Int) : slices_IndexFunc_Span_by_areSpans_1_L0 s f t7 t8 =
 bif decide (t8 < t7) then
 bif decide (0 ≤ t8) then
 bif decide (t8 < (s.2.length : Int)) then
(impl_areSpans_1 (s.2.getD (Int.toNat t8) (0, 0)) f.1).bind fun r =>
 bif r then
 some (.inl t8)
else 
(slices_IndexFunc_Span_by_areSpans_1_L0 s f t7 (IntKind.i64.wrap (t8 + 1))).bind fun r => some r
else none
else none
else 
 some (.inr ()) := Eq.trans (inf_loop_eq (H := H) 225 0 (loopCode Try.f225 0) (s, (f, (t7, t8))) key_slices_IndexFunc_Span_by_areSpans_1) (by kernel_rfl)
theorem slices_IndexFunc_Span_by_areSpans_1_eq (s : Bool × List DSpan) (f : Int × Unit) : slices_IndexFunc_Span_by_areSpans_1 s f =
(slices_IndexFunc_Span_by_areSpans_1_L0 s f (s.2.length : Int) 0).bind fun r =>
 match r with
| .inl y =>
 some y
| .inr z =>
 some (-1) := Eq.trans (inf_call_eq (H := H) 225 (s, f)) (by kernel_rfl)
theorem slices_ContainsFunc_Span_by_areSpans_1_eq (s : Bool × List DSpan) (f : Int × Unit) : slices_ContainsFunc_Span_by_areSpans_1 s f =
(slices_IndexFunc_Span_by_areSpans_1 s f).bind fun r =>
 some (decide (r ≥ 0)) := Eq.trans (inf_call_eq (H := H) 202 (s, f)) (by kernel_rfl)
theorem impl_areSpans_eq (wide : Int) (spans : Bool × List DSpan) : impl_areSpans wide spans =
(impl_isVars (spans.2.length : Int)).bind fun r =>
 bif r then
(slices_ContainsFunc_Span_by_areSpans_1 spans (wide, ())).bind fun r1 =>
 some (!r1)
else 
 some false := Eq.trans (inf_call_eq (H := H) 166 (wide, spans)) (by kernel_rfl)
theorem impl_areSpansOf_eq (p : DProgram) (spans : Bool × List DSpan) : impl_areSpansOf p spans =
(impl_GoodProgram p).bind fun r =>
 bif r then
 bif ((spans.2.length : Int) == p.2.1) then
(impl_areSpans p.1 spans).bind fun r1 =>
 some r1
else 
 some false
else 
 some false := Eq.trans (inf_call_eq (H := H) 123 (p, spans)) (by kernel_rfl)
theorem slices_Clone_Span_eq (s : Bool × List DSpan) : slices_Clone_Span s =
 bif s.1 then
 some (true, [])
else 
 bif decide (([] : List DSpan).length + s.2.length ≤ lim) then
 some (false, ([] ++ s.2))
else none := Eq.trans (inf_call_eq (H := H) 126 s) (by kernel_rfl)
theorem impl_sumSpan_eq (all_ : DSpan) (a : DSpan) (b : DSpan) : impl_sumSpan all_ a b =
 bif (((a.2 + b.2 + 0) / 18446744073709551616) == 0) then
 bif decide (((a.2 + b.2 + 0) % 18446744073709551616) ≤ all_.2) then
 some (IntKind.u64.wrap (a.1 + b.1), ((a.2 + b.2 + 0) % 18446744073709551616))
else 
 some all_
else 
 some all_ := Eq.trans (inf_call_eq (H := H) 227 (all_, (a, b))) (by kernel_rfl)
theorem bits_Mul64_eq (x : Int) (y : Int) : bits_Mul64 x y =
 some (IntKind.u64.wrap ((IntKind.u64.wrap ((IntKind.u64.wrap ((bShr .u64 x 32) * (bShr .u64 y 32))) + (bShr .u64 (IntKind.u64.wrap ((IntKind.u64.wrap ((bShr .u64 x 32) * (bAnd .u64 y 4294967295))) + (bShr .u64 (IntKind.u64.wrap ((bAnd .u64 x 4294967295) * (bAnd .u64 y 4294967295))) 32))) 32))) + (bShr .u64 (IntKind.u64.wrap ((bAnd .u64 (IntKind.u64.wrap ((IntKind.u64.wrap ((bShr .u64 x 32) * (bAnd .u64 y 4294967295))) + (bShr .u64 (IntKind.u64.wrap ((bAnd .u64 x 4294967295) * (bAnd .u64 y 4294967295))) 32))) 4294967295) + (IntKind.u64.wrap ((bAnd .u64 x 4294967295) * (bShr .u64 y 32))))) 32)), IntKind.u64.wrap (x * y)) := Eq.trans (inf_call_eq (H := H) 222 (x, y)) (by kernel_rfl)
theorem impl_productSpan_eq (all_ : DSpan) (a : DSpan) (b : DSpan) : impl_productSpan all_ a b =
(bits_Mul64 a.2 b.2).bind fun r =>
 bif (r.1 == 0) then
 bif decide (r.2 ≤ all_.2) then
 some (IntKind.u64.wrap (a.1 * b.1), r.2)
else 
 some all_
else 
 some all_ := Eq.trans (inf_call_eq (H := H) 228 (all_, (a, b))) (by kernel_rfl)
theorem impl_meetSpans_eq (a : DSpan) (b : DSpan) : impl_meetSpans a b =
 bif decide ((bif decide (a.1 < b.1) then b.1 else a.1) > (bif decide (b.2 < a.2) then b.2 else a.2)) then
 some ((0, 0), false)
else 
 some (((bif decide (a.1 < b.1) then b.1 else a.1), (bif decide (b.2 < a.2) then b.2 else a.2)), true) := Eq.trans (inf_call_eq (H := H) 229 (a, b)) (by kernel_rfl)
theorem impl_comparison_eq (yes : Bool) (no : Bool) : impl_comparison yes no =
 bif yes then
 some (1, 1)
else 
 bif no then
 some (0, 0)
else 
 some (0, 1) := Eq.trans (inf_call_eq (H := H) 230 (yes, no)) (by kernel_rfl)
theorem impl_spanOfTwo_eq (op : Int) (all_ : DSpan) (a : DSpan) (b : DSpan) : impl_spanOfTwo op all_ a b =
 bif (op == 3) then
(impl_sumSpan all_ a b).bind fun r =>
 some r
else 
 bif (op == 5) then
(impl_productSpan all_ a b).bind fun r1 =>
 some r1
else 
 bif (op == 4) then
 bif decide (a.1 ≥ b.2) then
 some (IntKind.u64.wrap (a.1 - b.2), IntKind.u64.wrap (a.2 - b.1))
else 
 some all_
else 
 bif (op == 6) then
 bif decide (b.1 > 0) then
 bif (b.2 == 0) then
 none
else 
 bif (b.1 == 0) then
 none
else 
 some (IntKind.u64.wrap (Int.tdiv a.1 b.2), IntKind.u64.wrap (Int.tdiv a.2 b.1))
else 
 some all_
else 
 bif (op == 7) then
 bif decide (b.1 > 0) then
 bif decide ((IntKind.u64.wrap (b.2 - 1)) < a.2) then
 some (0, IntKind.u64.wrap (b.2 - 1))
else 
 some (0, a.2)
else 
 some (0, a.2)
else 
 bif (op == 12) then
 some (0, a.2)
else 
 bif (op == 8) then
 some (0, (bif decide (b.2 < a.2) then b.2 else a.2))
else 
 bif (op == 9) then
 some ((bif decide (a.1 < b.1) then b.1 else a.1), all_.2)
else 
 bif (op == 14) then
(impl_meetSpans a b).bind fun r2 =>
 bif ((a.1 == b.1) && (a.2 == b.2)) then
(impl_comparison (a.1 == a.2) (!r2.2)).bind fun r3 =>
 some r3
else 
(impl_comparison false (!r2.2)).bind fun r4 =>
 some r4
else 
 bif (op == 15) then
(impl_comparison (decide (a.2 < b.1)) (decide (a.1 ≥ b.2))).bind fun r5 =>
 some r5
else 
 bif (op == 16) then
 some (0, 1)
else 
 bif (op == 17) then
 some ((bif decide (b.1 < a.1) then b.1 else a.1), (bif decide (b.2 < a.2) then b.2 else a.2))
else 
 bif (op == 18) then
 some ((bif decide (a.1 < b.1) then b.1 else a.1), (bif decide (a.2 < b.2) then b.2 else a.2))
else 
 some all_ := Eq.trans (inf_call_eq (H := H) 205 (op, (all_, (a, b)))) (by kernel_rfl)
theorem impl_spanOf_L0_eq (spans : Bool × List DSpan) (t6 : DSpan) (all_ : DSpan) (stack : Bool × List DSpan) (t16 : Bool × List DNode) (t17 : Int) (t18 : Int) : impl_spanOf_L0 spans t6 all_ stack t16 t17 t18 =
 bif decide (t18 < t17) then
 bif decide (0 ≤ t18) then
 bif decide (t18 < (t16.2.length : Int)) then
 bif (((t16.2.getD (Int.toNat t18) (0, 0)).1) == 1) then
 bif (((t16.2.getD (Int.toNat t18) (0, 0)).1) == 1) then
 bif decide (stack.2.length + [((t16.2.getD (Int.toNat t18) (0, 0)).2, (t16.2.getD (Int.toNat t18) (0, 0)).2)].length ≤ lim) then
(impl_spanOf_L0 spans t6 all_ ((stack.1 && false), (stack.2 ++ [((t16.2.getD (Int.toNat t18) (0, 0)).2, (t16.2.getD (Int.toNat t18) (0, 0)).2)])) t16 t17 (IntKind.i64.wrap (t18 + 1))).bind fun r => some r
else none
else 
 bif (((t16.2.getD (Int.toNat t18) (0, 0)).1) == 2) then
 bif decide (0 ≤ ((t16.2.getD (Int.toNat t18) (0, 0)).2)) then
 bif decide (((t16.2.getD (Int.toNat t18) (0, 0)).2) < (spans.2.length : Int)) then
 bif decide (stack.2.length + [(spans.2.getD (Int.toNat ((t16.2.getD (Int.toNat t18) (0, 0)).2)) (0, 0))].length ≤ lim) then
(impl_spanOf_L0 spans t6 all_ ((stack.1 && false), (stack.2 ++ [(spans.2.getD (Int.toNat ((t16.2.getD (Int.toNat t18) (0, 0)).2)) (0, 0))])) t16 t17 (IntKind.i64.wrap (t18 + 1))).bind fun r => some r
else none
else none
else none
else 
 bif (((t16.2.getD (Int.toNat t18) (0, 0)).1) == 13) then
 bif decide (0 ≤ (IntKind.i64.wrap ((stack.2.length : Int) - 1))) then
 bif decide ((IntKind.i64.wrap ((stack.2.length : Int) - 1)) < (stack.2.length : Int)) then
 bif decide (0 ≤ (IntKind.i64.wrap ((stack.2.length : Int) - 1))) then
 bif decide ((IntKind.i64.wrap ((stack.2.length : Int) - 1)) < (stack.2.length : Int)) then
 bif decide (0 ≤ (IntKind.i64.wrap ((stack.2.length : Int) - 1))) then
 bif decide ((IntKind.i64.wrap ((stack.2.length : Int) - 1)) < (stack.2.length : Int)) then
(impl_spanOf_L0 spans t6 all_ (stack.1, (stack.2.set (Int.toNat (IntKind.i64.wrap ((stack.2.length : Int) - 1))) (IntKind.u64.wrap (all_.2 - ((stack.2.getD (Int.toNat (IntKind.i64.wrap ((stack.2.length : Int) - 1))) (0, 0)).2)), IntKind.u64.wrap (all_.2 - ((stack.2.getD (Int.toNat (IntKind.i64.wrap ((stack.2.length : Int) - 1))) (0, 0)).1))))) t16 t17 (IntKind.i64.wrap (t18 + 1))).bind fun r => some r
else none
else none
else none
else none
else none
else none
else 
 bif (((t16.2.getD (Int.toNat t18) (0, 0)).1) == 19) then
 bif decide (0 ≤ (IntKind.i64.wrap ((stack.2.length : Int) - 1))) then
 bif decide ((IntKind.i64.wrap ((stack.2.length : Int) - 1)) < (stack.2.length : Int)) then
 bif decide (0 ≤ (IntKind.i64.wrap ((stack.2.length : Int) - 1))) then
 bif decide ((IntKind.i64.wrap ((stack.2.length : Int) - 1)) < (stack.2.length : Int)) then
 bif decide (0 ≤ (IntKind.i64.wrap ((stack.2.length : Int) - 1))) then
 bif decide ((IntKind.i64.wrap ((stack.2.length : Int) - 1)) < (stack.2.length : Int)) then
(impl_spanOf_L0 spans t6 all_ (stack.1, (stack.2.set (Int.toNat (IntKind.i64.wrap ((stack.2.length : Int) - 1))) (IntKind.u64.wrap (1 - ((stack.2.getD (Int.toNat (IntKind.i64.wrap ((stack.2.length : Int) - 1))) (0, 0)).2)), IntKind.u64.wrap (1 - ((stack.2.getD (Int.toNat (IntKind.i64.wrap ((stack.2.length : Int) - 1))) (0, 0)).1))))) t16 t17 (IntKind.i64.wrap (t18 + 1))).bind fun r => some r
else none
else none
else none
else none
else none
else none
else 
 bif decide (0 ≤ (IntKind.i64.wrap ((IntKind.i64.wrap ((stack.2.length : Int) - 1)) - 1))) then
 bif decide ((IntKind.i64.wrap ((IntKind.i64.wrap ((stack.2.length : Int) - 1)) - 1)) ≤ (stack.2.length : Int)) then
 bif decide (0 ≤ (IntKind.i64.wrap ((IntKind.i64.wrap ((stack.2.length : Int) - 1)) - 1))) then
 bif decide ((IntKind.i64.wrap ((IntKind.i64.wrap ((stack.2.length : Int) - 1)) - 1)) < (stack.2.length : Int)) then
 bif decide (0 ≤ (IntKind.i64.wrap ((stack.2.length : Int) - 1))) then
 bif decide ((IntKind.i64.wrap ((stack.2.length : Int) - 1)) < (stack.2.length : Int)) then
(impl_spanOfTwo ((t16.2.getD (Int.toNat t18) (0, 0)).1) all_ (stack.2.getD (Int.toNat (IntKind.i64.wrap ((IntKind.i64.wrap ((stack.2.length : Int) - 1)) - 1))) (0, 0)) (stack.2.getD (Int.toNat (IntKind.i64.wrap ((stack.2.length : Int) - 1))) (0, 0))).bind fun r =>
 bif decide (((stack.2.take (Int.toNat (IntKind.i64.wrap ((IntKind.i64.wrap ((stack.2.length : Int) - 1)) - 1)))).drop 0).length + [r].length ≤ lim) then
(impl_spanOf_L0 spans t6 all_ ((stack.1 && false), (((stack.2.take (Int.toNat (IntKind.i64.wrap ((IntKind.i64.wrap ((stack.2.length : Int) - 1)) - 1)))).drop 0) ++ [r])) t16 t17 (IntKind.i64.wrap (t18 + 1))).bind fun r => some r
else none
else none
else none
else none
else none
else none
else none
else 
 bif (((t16.2.getD (Int.toNat t18) (0, 0)).1) == 20) then
 bif decide (stack.2.length + [((t16.2.getD (Int.toNat t18) (0, 0)).2, (t16.2.getD (Int.toNat t18) (0, 0)).2)].length ≤ lim) then
(impl_spanOf_L0 spans t6 all_ ((stack.1 && false), (stack.2 ++ [((t16.2.getD (Int.toNat t18) (0, 0)).2, (t16.2.getD (Int.toNat t18) (0, 0)).2)])) t16 t17 (IntKind.i64.wrap (t18 + 1))).bind fun r => some r
else none
else 
 bif (((t16.2.getD (Int.toNat t18) (0, 0)).1) == 2) then
 bif decide (0 ≤ ((t16.2.getD (Int.toNat t18) (0, 0)).2)) then
 bif decide (((t16.2.getD (Int.toNat t18) (0, 0)).2) < (spans.2.length : Int)) then
 bif decide (stack.2.length + [(spans.2.getD (Int.toNat ((t16.2.getD (Int.toNat t18) (0, 0)).2)) (0, 0))].length ≤ lim) then
(impl_spanOf_L0 spans t6 all_ ((stack.1 && false), (stack.2 ++ [(spans.2.getD (Int.toNat ((t16.2.getD (Int.toNat t18) (0, 0)).2)) (0, 0))])) t16 t17 (IntKind.i64.wrap (t18 + 1))).bind fun r => some r
else none
else none
else none
else 
 bif (((t16.2.getD (Int.toNat t18) (0, 0)).1) == 13) then
 bif decide (0 ≤ (IntKind.i64.wrap ((stack.2.length : Int) - 1))) then
 bif decide ((IntKind.i64.wrap ((stack.2.length : Int) - 1)) < (stack.2.length : Int)) then
 bif decide (0 ≤ (IntKind.i64.wrap ((stack.2.length : Int) - 1))) then
 bif decide ((IntKind.i64.wrap ((stack.2.length : Int) - 1)) < (stack.2.length : Int)) then
 bif decide (0 ≤ (IntKind.i64.wrap ((stack.2.length : Int) - 1))) then
 bif decide ((IntKind.i64.wrap ((stack.2.length : Int) - 1)) < (stack.2.length : Int)) then
(impl_spanOf_L0 spans t6 all_ (stack.1, (stack.2.set (Int.toNat (IntKind.i64.wrap ((stack.2.length : Int) - 1))) (IntKind.u64.wrap (all_.2 - ((stack.2.getD (Int.toNat (IntKind.i64.wrap ((stack.2.length : Int) - 1))) (0, 0)).2)), IntKind.u64.wrap (all_.2 - ((stack.2.getD (Int.toNat (IntKind.i64.wrap ((stack.2.length : Int) - 1))) (0, 0)).1))))) t16 t17 (IntKind.i64.wrap (t18 + 1))).bind fun r => some r
else none
else none
else none
else none
else none
else none
else 
 bif (((t16.2.getD (Int.toNat t18) (0, 0)).1) == 19) then
 bif decide (0 ≤ (IntKind.i64.wrap ((stack.2.length : Int) - 1))) then
 bif decide ((IntKind.i64.wrap ((stack.2.length : Int) - 1)) < (stack.2.length : Int)) then
 bif decide (0 ≤ (IntKind.i64.wrap ((stack.2.length : Int) - 1))) then
 bif decide ((IntKind.i64.wrap ((stack.2.length : Int) - 1)) < (stack.2.length : Int)) then
 bif decide (0 ≤ (IntKind.i64.wrap ((stack.2.length : Int) - 1))) then
 bif decide ((IntKind.i64.wrap ((stack.2.length : Int) - 1)) < (stack.2.length : Int)) then
(impl_spanOf_L0 spans t6 all_ (stack.1, (stack.2.set (Int.toNat (IntKind.i64.wrap ((stack.2.length : Int) - 1))) (IntKind.u64.wrap (1 - ((stack.2.getD (Int.toNat (IntKind.i64.wrap ((stack.2.length : Int) - 1))) (0, 0)).2)), IntKind.u64.wrap (1 - ((stack.2.getD (Int.toNat (IntKind.i64.wrap ((stack.2.length : Int) - 1))) (0, 0)).1))))) t16 t17 (IntKind.i64.wrap (t18 + 1))).bind fun r => some r
else none
else none
else none
else none
else none
else none
else 
 bif decide (0 ≤ (IntKind.i64.wrap ((IntKind.i64.wrap ((stack.2.length : Int) - 1)) - 1))) then
 bif decide ((IntKind.i64.wrap ((IntKind.i64.wrap ((stack.2.length : Int) - 1)) - 1)) ≤ (stack.2.length : Int)) then
 bif decide (0 ≤ (IntKind.i64.wrap ((IntKind.i64.wrap ((stack.2.length : Int) - 1)) - 1))) then
 bif decide ((IntKind.i64.wrap ((IntKind.i64.wrap ((stack.2.length : Int) - 1)) - 1)) < (stack.2.length : Int)) then
 bif decide (0 ≤ (IntKind.i64.wrap ((stack.2.length : Int) - 1))) then
 bif decide ((IntKind.i64.wrap ((stack.2.length : Int) - 1)) < (stack.2.length : Int)) then
(impl_spanOfTwo ((t16.2.getD (Int.toNat t18) (0, 0)).1) all_ (stack.2.getD (Int.toNat (IntKind.i64.wrap ((IntKind.i64.wrap ((stack.2.length : Int) - 1)) - 1))) (0, 0)) (stack.2.getD (Int.toNat (IntKind.i64.wrap ((stack.2.length : Int) - 1))) (0, 0))).bind fun r1 =>
 bif decide (((stack.2.take (Int.toNat (IntKind.i64.wrap ((IntKind.i64.wrap ((stack.2.length : Int) - 1)) - 1)))).drop 0).length + [r1].length ≤ lim) then
(impl_spanOf_L0 spans t6 all_ ((stack.1 && false), (((stack.2.take (Int.toNat (IntKind.i64.wrap ((IntKind.i64.wrap ((stack.2.length : Int) - 1)) - 1)))).drop 0) ++ [r1])) t16 t17 (IntKind.i64.wrap (t18 + 1))).bind fun r => some r
else none
else none
else none
else none
else none
else none
else none
else none
else none
else 
 some (stack.1, stack.2) := Eq.trans (inf_loop_eq (H := H) 167 0 (loopCode Try.f167 0) (spans, (t6, (all_, (stack, (t16, (t17, t18)))))) key_impl_spanOf) (by kernel_rfl)
theorem impl_spanOf_eq (wide : Int) (t : Bool × List DNode) (spans : Bool × List DSpan) : impl_spanOf wide t spans =
(impl_mask wide).bind fun r =>
(impl_spanOf_L0 spans (0, 0) (0, r) (false, []) t (t.2.length : Int) 0).bind fun r1 =>
 bif decide (0 < (r1.2.length : Int)) then
 some (r1.2.getD 0 (0, 0))
else none := Eq.trans (inf_call_eq (H := H) 167 (wide, (t, spans))) (by kernel_rfl)
theorem impl_join_eq (a : DSpan) (b : DSpan) : impl_join a b =
 some ((bif decide (b.1 < a.1) then b.1 else a.1), (bif decide (a.2 < b.2) then b.2 else a.2)) := Eq.trans (inf_call_eq (H := H) 168 (a, b)) (by kernel_rfl)
theorem impl_spanRound_L0_eq (spans : Bool × List DSpan) (p : DProgram) (out : Bool × List DSpan) (t13 : Bool × List DCommand) (t14 : Int) (t15 : Int) : impl_spanRound_L0 spans p out t13 t14 t15 =
 bif decide (t15 < t14) then
 bif decide (0 ≤ t15) then
 bif decide (t15 < (t13.2.length : Int)) then
(impl_spanOf p.1 ((t13.2.getD (Int.toNat t15) ((true, []), (true, []))).1) spans).bind fun r =>
 bif ((r.1 == 0) && (r.2 == 0)) then
(impl_spanRound_L0 spans p (out.1, out.2) t13 t14 (IntKind.i64.wrap (t15 + 1))).bind fun r => some r
else 
(impl_spanRound_L2 spans p (out.1, out.2) t13 t14 t15 ((t13.2.getD (Int.toNat t15) ((true, []), (true, []))).2) ((((t13.2.getD (Int.toNat t15) ((true, []), (true, []))).2).2).length : Int) 0).bind fun r1 =>
(impl_spanRound_L0 spans p (r1.1, r1.2) t13 t14 (IntKind.i64.wrap (t15 + 1))).bind fun r => some r
else none
else none
else 
 some (out.1, out.2) := Eq.trans (inf_loop_eq (H := H) 124 0 (loopCode Try.f124 0) (spans, (p, (out, (t13, (t14, t15))))) key_impl_spanRound) (by kernel_rfl)
theorem impl_spanRound_L2_eq (spans : Bool × List DSpan) (p : DProgram) (out : Bool × List DSpan) (t13 : Bool × List DCommand) (t14 : Int) (t15 : Int) (t28 : Bool × List DChange) (t29 : Int) (t30 : Int) : impl_spanRound_L2 spans p out t13 t14 t15 t28 t29 t30 =
 bif decide (t30 < t29) then
 bif decide (0 ≤ t30) then
 bif decide (t30 < (t28.2.length : Int)) then
 bif decide (0 ≤ ((t28.2.getD (Int.toNat t30) (0, (true, []))).1)) then
 bif decide (((t28.2.getD (Int.toNat t30) (0, (true, []))).1) < (out.2.length : Int)) then
(impl_spanOf p.1 ((t28.2.getD (Int.toNat t30) (0, (true, []))).2) spans).bind fun r =>
(impl_join (out.2.getD (Int.toNat ((t28.2.getD (Int.toNat t30) (0, (true, []))).1)) (0, 0)) r).bind fun r1 =>
 bif decide (0 ≤ ((t28.2.getD (Int.toNat t30) (0, (true, []))).1)) then
 bif decide (((t28.2.getD (Int.toNat t30) (0, (true, []))).1) < (out.2.length : Int)) then
(impl_spanRound_L2 spans p (out.1, (out.2.set (Int.toNat ((t28.2.getD (Int.toNat t30) (0, (true, []))).1)) r1)) t13 t14 t15 t28 t29 (IntKind.i64.wrap (t30 + 1))).bind fun r => some r
else none
else none
else none
else none
else none
else none
else 
 some (out.1, out.2) := Eq.trans (inf_loop_eq (H := H) 124 2 (loopCode Try.f124 2) (spans, (p, (out, (t13, (t14, (t15, (t28, (t29, t30)))))))) key_impl_spanRound) (by kernel_rfl)
theorem impl_spanRound_eq (p : DProgram) (spans : Bool × List DSpan) : impl_spanRound p spans =
(slices_Clone_Span spans).bind fun r =>
(impl_spanRound_L0 spans p (r.1, r.2) p.2.2.2 (p.2.2.2.2.length : Int) 0).bind fun r1 =>
 some (r1.1, r1.2) := Eq.trans (inf_call_eq (H := H) 124 (p, spans)) (by kernel_rfl)
theorem slices_Equal_Span_L0_eq (s1 : Bool × List DSpan) (s2 : Bool × List DSpan) (t12 : Int) (t13 : Int) : slices_Equal_Span_L0 s1 s2 t12 t13 =
 bif decide (t13 < t12) then
 bif decide (0 ≤ t13) then
 bif decide (t13 < (s1.2.length : Int)) then
 bif decide (0 ≤ t13) then
 bif decide (t13 < (s2.2.length : Int)) then
 bif !((((s1.2.getD (Int.toNat t13) (0, 0)).1) == ((s2.2.getD (Int.toNat t13) (0, 0)).1)) && (((s1.2.getD (Int.toNat t13) (0, 0)).2) == ((s2.2.getD (Int.toNat t13) (0, 0)).2))) then
 some (.inl false)
else 
(slices_Equal_Span_L0 s1 s2 t12 (IntKind.i64.wrap (t13 + 1))).bind fun r => some r
else none
else none
else none
else none
else 
 some (.inr ()) := Eq.trans (inf_loop_eq (H := H) 127 0 (loopCode Try.f127 0) (s1, (s2, (t12, t13))) key_slices_Equal_Span) (by kernel_rfl)
theorem slices_Equal_Span_eq (s1 : Bool × List DSpan) (s2 : Bool × List DSpan) : slices_Equal_Span s1 s2 =
 bif ((s1.2.length : Int) != (s2.2.length : Int)) then
 some false
else 
(slices_Equal_Span_L0 s1 s2 (s1.2.length : Int) 0).bind fun r =>
 match r with
| .inl y =>
 some y
| .inr z =>
 some true := Eq.trans (inf_call_eq (H := H) 127 (s1, s2)) (by kernel_rfl)
theorem impl_SettleSpans_L0_eq (p : DProgram) (out : Bool × List DSpan) (t24 : Int) (t25 : Int) : impl_SettleSpans_L0 p out t24 t25 =
 bif decide (t25 < t24) then
(impl_spanRound p (out.1, out.2)).bind fun r =>
(impl_SettleSpans_L0 p (r.1, r.2) t24 (IntKind.i64.wrap (t25 + 1))).bind fun r => some r
else 
 some (out.1, out.2) := Eq.trans (inf_loop_eq (H := H) 67 0 (loopCode Try.f67 0) (p, (out, (t24, t25))) key_impl_SettleSpans) (by kernel_rfl)
theorem impl_SettleSpans_eq (p : DProgram) (spans : Bool × List DSpan) (rounds : Int) : impl_SettleSpans p spans rounds =
(impl_areSpansOf p spans).bind fun r =>
 bif !r then
 some ((true, []), (false, false))
else 
 bif decide (rounds < 0) then
 some ((true, []), (false, false))
else 
 bif decide (rounds > 20) then
 some ((true, []), (false, false))
else 
(slices_Clone_Span spans).bind fun r1 =>
(impl_SettleSpans_L0 p (r1.1, r1.2) rounds 0).bind fun r2 =>
(impl_spanRound p (r2.1, r2.2)).bind fun r3 =>
(slices_Equal_Span (r3.1, r3.2) (r2.1, r2.2)).bind fun r4 =>
 some ((r2.1, r2.2), (r4, true)) := Eq.trans (inf_call_eq (H := H) 67 (p, (spans, rounds))) (by kernel_rfl)
theorem laws_eqSpan_eq (a : DSpan) (b : DSpan) : laws_eqSpan a b =
 bif (a.1 != b.1) then
 some false
else 
 bif (a.2 != b.2) then
 some false
else 
 some true := Eq.trans (inf_call_eq (H := H) 125 (a, b)) (by kernel_rfl)
theorem laws_eqSpanS_L0_eq (a : Bool × List DSpan) (b : Bool × List DSpan) (i : Int) : laws_eqSpanS_L0 a b i =
 bif decide (i < (a.2.length : Int)) then
 bif decide (0 ≤ i) then
 bif decide (i < (a.2.length : Int)) then
 bif decide (0 ≤ i) then
 bif decide (i < (b.2.length : Int)) then
(laws_eqSpan (a.2.getD (Int.toNat i) (0, 0)) (b.2.getD (Int.toNat i) (0, 0))).bind fun r =>
 bif !r then
 some (.inl false)
else 
(laws_eqSpanS_L0 a b (IntKind.i64.wrap (i + 1))).bind fun r => some r
else none
else none
else none
else none
else 
 some (.inr ()) := Eq.trans (inf_loop_eq (H := H) 63 0 (loopCode Try.f63 0) (a, (b, i)) key_laws_eqSpanS) (by kernel_rfl)
theorem laws_eqSpanS_eq (a : Bool × List DSpan) (b : Bool × List DSpan) : laws_eqSpanS a b =
 bif ((a.2.length : Int) != (b.2.length : Int)) then
 some false
else 
(laws_eqSpanS_L0 a b 0).bind fun r =>
 match r with
| .inl y =>
 some y
| .inr z =>
 some true := Eq.trans (inf_call_eq (H := H) 63 (a, b)) (by kernel_rfl)
theorem laws_eqNode_eq (a : DNode) (b : DNode) : laws_eqNode a b =
 bif (a.1 != b.1) then
 some false
else 
 bif (a.2 != b.2) then
 some false
else 
 some true := Eq.trans (inf_call_eq (H := H) 79 (a, b)) (by kernel_rfl)
theorem laws_eqNodeS_L0_eq (a : Bool × List DNode) (b : Bool × List DNode) (i : Int) : laws_eqNodeS_L0 a b i =
 bif decide (i < (a.2.length : Int)) then
 bif decide (0 ≤ i) then
 bif decide (i < (a.2.length : Int)) then
 bif decide (0 ≤ i) then
 bif decide (i < (b.2.length : Int)) then
(laws_eqNode (a.2.getD (Int.toNat i) (0, 0)) (b.2.getD (Int.toNat i) (0, 0))).bind fun r =>
 bif !r then
 some (.inl false)
else 
(laws_eqNodeS_L0 a b (IntKind.i64.wrap (i + 1))).bind fun r => some r
else none
else none
else none
else none
else 
 some (.inr ()) := Eq.trans (inf_loop_eq (H := H) 21 0 (loopCode Try.f21 0) (a, (b, i)) key_laws_eqNodeS) (by kernel_rfl)
theorem laws_eqNodeS_eq (a : Bool × List DNode) (b : Bool × List DNode) : laws_eqNodeS a b =
 bif ((a.2.length : Int) != (b.2.length : Int)) then
 some false
else 
(laws_eqNodeS_L0 a b 0).bind fun r =>
 match r with
| .inl y =>
 some y
| .inr z =>
 some true := Eq.trans (inf_call_eq (H := H) 21 (a, b)) (by kernel_rfl)
theorem laws_eqChange_eq (a : DChange) (b : DChange) : laws_eqChange a b =
 bif (a.1 != b.1) then
 some false
else 
(laws_eqNodeS a.2 b.2).bind fun r =>
 bif !r then
 some false
else 
 some true := Eq.trans (inf_call_eq (H := H) 210 (a, b)) (by kernel_rfl)
theorem laws_eqChangeS_L0_eq (a : Bool × List DChange) (b : Bool × List DChange) (i : Int) : laws_eqChangeS_L0 a b i =
 bif decide (i < (a.2.length : Int)) then
 bif decide (0 ≤ i) then
 bif decide (i < (a.2.length : Int)) then
 bif decide (0 ≤ i) then
 bif decide (i < (b.2.length : Int)) then
(laws_eqChange (a.2.getD (Int.toNat i) (0, (true, []))) (b.2.getD (Int.toNat i) (0, (true, [])))).bind fun r =>
 bif !r then
 some (.inl false)
else 
(laws_eqChangeS_L0 a b (IntKind.i64.wrap (i + 1))).bind fun r => some r
else none
else none
else none
else none
else 
 some (.inr ()) := Eq.trans (inf_loop_eq (H := H) 176 0 (loopCode Try.f176 0) (a, (b, i)) key_laws_eqChangeS) (by kernel_rfl)
theorem laws_eqChangeS_eq (a : Bool × List DChange) (b : Bool × List DChange) : laws_eqChangeS a b =
 bif ((a.2.length : Int) != (b.2.length : Int)) then
 some false
else 
(laws_eqChangeS_L0 a b 0).bind fun r =>
 match r with
| .inl y =>
 some y
| .inr z =>
 some true := Eq.trans (inf_call_eq (H := H) 176 (a, b)) (by kernel_rfl)
theorem laws_eqCommand_eq (a : DCommand) (b : DCommand) : laws_eqCommand a b =
(laws_eqNodeS a.1 b.1).bind fun r =>
 bif !r then
 some false
else 
(laws_eqChangeS a.2 b.2).bind fun r1 =>
 bif !r1 then
 some false
else 
 some true := Eq.trans (inf_call_eq (H := H) 137 (a, b)) (by kernel_rfl)
theorem laws_eqCommandS_L0_eq (a : Bool × List DCommand) (b : Bool × List DCommand) (i : Int) : laws_eqCommandS_L0 a b i =
 bif decide (i < (a.2.length : Int)) then
 bif decide (0 ≤ i) then
 bif decide (i < (a.2.length : Int)) then
 bif decide (0 ≤ i) then
 bif decide (i < (b.2.length : Int)) then
(laws_eqCommand (a.2.getD (Int.toNat i) ((true, []), (true, []))) (b.2.getD (Int.toNat i) ((true, []), (true, [])))).bind fun r =>
 bif !r then
 some (.inl false)
else 
(laws_eqCommandS_L0 a b (IntKind.i64.wrap (i + 1))).bind fun r => some r
else none
else none
else none
else none
else 
 some (.inr ()) := Eq.trans (inf_loop_eq (H := H) 78 0 (loopCode Try.f78 0) (a, (b, i)) key_laws_eqCommandS) (by kernel_rfl)
theorem laws_eqCommandS_eq (a : Bool × List DCommand) (b : Bool × List DCommand) : laws_eqCommandS a b =
 bif ((a.2.length : Int) != (b.2.length : Int)) then
 some false
else 
(laws_eqCommandS_L0 a b 0).bind fun r =>
 match r with
| .inl y =>
 some y
| .inr z =>
 some true := Eq.trans (inf_call_eq (H := H) 78 (a, b)) (by kernel_rfl)
theorem laws_eqProgram_eq (a : DProgram) (b : DProgram) : laws_eqProgram a b =
 bif (a.1 != b.1) then
 some false
else 
 bif (a.2.1 != b.2.1) then
 some false
else 
(laws_eqNodeS a.2.2.1 b.2.2.1).bind fun r =>
 bif !r then
 some false
else 
(laws_eqCommandS a.2.2.2 b.2.2.2).bind fun r1 =>
 bif !r1 then
 some false
else 
 some true := Eq.trans (inf_call_eq (H := H) 20 (a, b)) (by kernel_rfl)
theorem laws_markNodeS_L0_eq (a : Bool × List DNode) (k_ : Int) (i : Int) : laws_markNodeS_L0 a k_ i =
 bif decide (i < (a.2.length : Int)) then
 bif decide (0 ≤ i) then
 bif decide (i < (a.2.length : Int)) then
 bif decide (0 ≤ i) then
 bif decide (i < ((a.2.set (Int.toNat i) (k_, (a.2.getD (Int.toNat i) (0, 0)).2)).length : Int)) then
(laws_markNodeS_L0 (a.1, ((a.2.set (Int.toNat i) (k_, (a.2.getD (Int.toNat i) (0, 0)).2)).set (Int.toNat i) (((a.2.set (Int.toNat i) (k_, (a.2.getD (Int.toNat i) (0, 0)).2)).getD (Int.toNat i) (0, 0)).1, IntKind.u64.wrap (IntKind.i64.wrap (k_ + 1))))) (IntKind.i64.wrap ((IntKind.i64.wrap (k_ + 1)) + 1)) (IntKind.i64.wrap (i + 1))).bind fun r => some r
else none
else none
else none
else none
else 
 some ((a.1, a.2), k_) := Eq.trans (inf_loop_eq (H := H) 48 0 (loopCode Try.f48 0) (a, (k_, i)) key_laws_markNodeS) (by kernel_rfl)
theorem laws_markNodeS_eq (a : Bool × List DNode) (k_ : Int) : laws_markNodeS a k_ =
(laws_markNodeS_L0 (a.1, a.2) k_ 0).bind fun r =>
 some ((r.1.1, r.1.2), r.2) := Eq.trans (inf_call_eq (H := H) 48 (a, k_)) (by kernel_rfl)
theorem laws_markChangeS_L0_eq (a : Bool × List DChange) (k_ : Int) (i : Int) : laws_markChangeS_L0 a k_ i =
 bif decide (i < (a.2.length : Int)) then
 bif decide (0 ≤ i) then
 bif decide (i < (a.2.length : Int)) then
 bif decide (0 ≤ i) then
 bif decide (i < ((a.2.set (Int.toNat i) (k_, (a.2.getD (Int.toNat i) (0, (true, []))).2)).length : Int)) then
(laws_markNodeS ((((a.2.set (Int.toNat i) (k_, (a.2.getD (Int.toNat i) (0, (true, []))).2)).getD (Int.toNat i) (0, (true, []))).2).1, (((a.2.set (Int.toNat i) (k_, (a.2.getD (Int.toNat i) (0, (true, []))).2)).getD (Int.toNat i) (0, (true, []))).2).2) (IntKind.i64.wrap (k_ + 1))).bind fun r =>
(laws_markChangeS_L0 (a.1, ((a.2.set (Int.toNat i) (k_, (a.2.getD (Int.toNat i) (0, (true, []))).2)).set (Int.toNat i) (((a.2.set (Int.toNat i) (k_, (a.2.getD (Int.toNat i) (0, (true, []))).2)).getD (Int.toNat i) (0, (true, []))).1, (r.1.1, r.1.2)))) r.2 (IntKind.i64.wrap (i + 1))).bind fun r => some r
else none
else none
else none
else none
else 
 some ((a.1, a.2), k_) := Eq.trans (inf_loop_eq (H := H) 148 0 (loopCode Try.f148 0) (a, (k_, i)) key_laws_markChangeS) (by kernel_rfl)
theorem laws_markChangeS_eq (a : Bool × List DChange) (k_ : Int) : laws_markChangeS a k_ =
(laws_markChangeS_L0 (a.1, a.2) k_ 0).bind fun r =>
 some ((r.1.1, r.1.2), r.2) := Eq.trans (inf_call_eq (H := H) 148 (a, k_)) (by kernel_rfl)
theorem laws_markCommandS_L0_eq (a : Bool × List DCommand) (k_ : Int) (i : Int) : laws_markCommandS_L0 a k_ i =
 bif decide (i < (a.2.length : Int)) then
 bif decide (0 ≤ i) then
 bif decide (i < (a.2.length : Int)) then
(laws_markNodeS (((a.2.getD (Int.toNat i) ((true, []), (true, []))).1).1, ((a.2.getD (Int.toNat i) ((true, []), (true, []))).1).2) k_).bind fun r =>
 bif decide (0 ≤ i) then
 bif decide (i < (a.2.length : Int)) then
(laws_markChangeS ((((a.2.set (Int.toNat i) ((r.1.1, r.1.2), (a.2.getD (Int.toNat i) ((true, []), (true, []))).2)).getD (Int.toNat i) ((true, []), (true, []))).2).1, (((a.2.set (Int.toNat i) ((r.1.1, r.1.2), (a.2.getD (Int.toNat i) ((true, []), (true, []))).2)).getD (Int.toNat i) ((true, []), (true, []))).2).2) r.2).bind fun r1 =>
(laws_markCommandS_L0 (a.1, ((a.2.set (Int.toNat i) ((r.1.1, r.1.2), (a.2.getD (Int.toNat i) ((true, []), (true, []))).2)).set (Int.toNat i) (((a.2.set (Int.toNat i) ((r.1.1, r.1.2), (a.2.getD (Int.toNat i) ((true, []), (true, []))).2)).getD (Int.toNat i) ((true, []), (true, []))).1, (r1.1.1, r1.1.2)))) r1.2 (IntKind.i64.wrap (i + 1))).bind fun r => some r
else none
else none
else none
else none
else 
 some ((a.1, a.2), k_) := Eq.trans (inf_loop_eq (H := H) 103 0 (loopCode Try.f103 0) (a, (k_, i)) key_laws_markCommandS) (by kernel_rfl)
theorem laws_markCommandS_eq (a : Bool × List DCommand) (k_ : Int) : laws_markCommandS a k_ =
(laws_markCommandS_L0 (a.1, a.2) k_ 0).bind fun r =>
 some ((r.1.1, r.1.2), r.2) := Eq.trans (inf_call_eq (H := H) 103 (a, k_)) (by kernel_rfl)
theorem laws_markProgram_eq (a0_0 : Int) (a0_1 : Int) (a0_2 : Bool × List DNode) (a0_3 : Bool × List DCommand) (k_ : Int) : laws_markProgram a0_0 a0_1 a0_2 a0_3 k_ =
(laws_markNodeS (a0_2.1, a0_2.2) k_).bind fun r =>
(laws_markCommandS (a0_3.1, a0_3.2) r.2).bind fun r1 =>
 some ((r.1.1, r.1.2), ((r1.1.1, r1.1.2), r1.2)) := Eq.trans (inf_call_eq (H := H) 42 (a0_0, (a0_1, (a0_2, (a0_3, k_))))) (by kernel_rfl)
theorem laws_markSpanS_L0_eq (a : Bool × List DSpan) (k_ : Int) (i : Int) : laws_markSpanS_L0 a k_ i =
 bif decide (i < (a.2.length : Int)) then
 bif decide (0 ≤ i) then
 bif decide (i < (a.2.length : Int)) then
 bif decide (0 ≤ i) then
 bif decide (i < ((a.2.set (Int.toNat i) (IntKind.u64.wrap k_, (a.2.getD (Int.toNat i) (0, 0)).2)).length : Int)) then
(laws_markSpanS_L0 (a.1, ((a.2.set (Int.toNat i) (IntKind.u64.wrap k_, (a.2.getD (Int.toNat i) (0, 0)).2)).set (Int.toNat i) (((a.2.set (Int.toNat i) (IntKind.u64.wrap k_, (a.2.getD (Int.toNat i) (0, 0)).2)).getD (Int.toNat i) (0, 0)).1, IntKind.u64.wrap (IntKind.i64.wrap (k_ + 1))))) (IntKind.i64.wrap ((IntKind.i64.wrap (k_ + 1)) + 1)) (IntKind.i64.wrap (i + 1))).bind fun r => some r
else none
else none
else none
else none
else 
 some ((a.1, a.2), k_) := Eq.trans (inf_loop_eq (H := H) 64 0 (loopCode Try.f64 0) (a, (k_, i)) key_laws_markSpanS) (by kernel_rfl)
theorem laws_markSpanS_eq (a : Bool × List DSpan) (k_ : Int) : laws_markSpanS a k_ =
(laws_markSpanS_L0 (a.1, a.2) k_ 0).bind fun r =>
 some ((r.1.1, r.1.2), r.2) := Eq.trans (inf_call_eq (H := H) 64 (a, k_)) (by kernel_rfl)
theorem laws_heldSpanS_L0_eq (a : Bool × List DSpan) (k_ : Int) (i : Int) : laws_heldSpanS_L0 a k_ i =
 bif decide (i < (a.2.length : Int)) then
 bif decide (0 ≤ i) then
 bif decide (i < (a.2.length : Int)) then
 bif (((a.2.getD (Int.toNat i) (0, 0)).1) != (IntKind.u64.wrap k_)) then
 some (.inl (-1))
else 
 bif decide (0 ≤ i) then
 bif decide (i < (a.2.length : Int)) then
 bif (((a.2.getD (Int.toNat i) (0, 0)).2) != (IntKind.u64.wrap (IntKind.i64.wrap (k_ + 1)))) then
 some (.inl (-1))
else 
(laws_heldSpanS_L0 a (IntKind.i64.wrap ((IntKind.i64.wrap (k_ + 1)) + 1)) (IntKind.i64.wrap (i + 1))).bind fun r => some r
else none
else none
else none
else none
else 
 some (.inr k_) := Eq.trans (inf_loop_eq (H := H) 65 0 (loopCode Try.f65 0) (a, (k_, i)) key_laws_heldSpanS) (by kernel_rfl)
theorem laws_heldSpanS_eq (a : Bool × List DSpan) (k_ : Int) : laws_heldSpanS a k_ =
(laws_heldSpanS_L0 a k_ 0).bind fun r =>
 match r with
| .inl y =>
 some y
| .inr z =>
 some z := Eq.trans (inf_call_eq (H := H) 65 (a, k_)) (by kernel_rfl)
theorem laws_FnExactSettleSpans_eq (aP : DProgram) (aSpans : Bool × List DSpan) (aRounds : Int) : laws_FnExactSettleSpans aP aSpans aRounds =
(laws_szProgram aP 1048576).bind fun r =>
 bif decide (r < 0) then
 some true
else 
(laws_szSpanS aSpans r).bind fun r1 =>
 bif decide (r1 < 0) then
 some true
else 
(laws_toProgram aP).bind fun r2 =>
(laws_toSpanS aSpans).bind fun r3 =>
(spec_SettleSpans (r2.1, (r2.2.1, ((r2.2.2.1.1, r2.2.2.1.2), (r2.2.2.2.1, r2.2.2.2.2)))) (r3.1, r3.2) aRounds).bind fun r4 =>
(laws_toProgram aP).bind fun r5 =>
(laws_toSpanS aSpans).bind fun r6 =>
(impl_SettleSpans (r5.1, (r5.2.1, ((r5.2.2.1.1, r5.2.2.1.2), (r5.2.2.2.1, r5.2.2.2.2)))) (r6.1, r6.2) aRounds).bind fun r7 =>
(laws_eqSpanS (r7.1.1, r7.1.2) (r4.1.1, r4.1.2)).bind fun r8 =>
 bif !r8 then
 some false
else 
 bif !(r7.2.1 == r4.2.1) then
 some false
else 
 bif !(r7.2.2 == r4.2.2) then
 some false
else 
(laws_toProgram aP).bind fun r9 =>
(laws_eqProgram (r5.1, (r5.2.1, ((r5.2.2.1.1, r5.2.2.1.2), (r5.2.2.2.1, r5.2.2.2.2)))) (r9.1, (r9.2.1, ((r9.2.2.1.1, r9.2.2.1.2), (r9.2.2.2.1, r9.2.2.2.2))))).bind fun r10 =>
 bif !r10 then
 some false
else 
(laws_toSpanS aSpans).bind fun r11 =>
(laws_eqSpanS (r6.1, r6.2) (r11.1, r11.2)).bind fun r12 =>
 bif !r12 then
 some false
else 
(laws_markProgram r5.1 r5.2.1 (r5.2.2.1.1, r5.2.2.1.2) (r5.2.2.2.1, r5.2.2.2.2) 1).bind fun r13 =>
(laws_markSpanS (r6.1, r6.2) r13.2.2).bind fun r14 =>
 bif decide (r14.2 < 0) then
 some false
else 
(laws_eqSpanS (r7.1.1, r7.1.2) (r4.1.1, r4.1.2)).bind fun r15 =>
 bif !r15 then
 some false
else 
 bif !(r7.2.1 == r4.2.1) then
 some false
else 
 bif !(r7.2.2 == r4.2.2) then
 some false
else 
(laws_markSpanS (r7.1.1, r7.1.2) 1).bind fun r16 =>
(laws_heldSpanS (r16.1.1, r16.1.2) 1).bind fun r17 =>
 bif decide (r17 < 0) then
 some false
else 
 bif (r17 != r16.2) then
 some false
else 
(laws_toProgram aP).bind fun r18 =>
(laws_toSpanS aSpans).bind fun r19 =>
(impl_SettleSpans (r18.1, (r18.2.1, ((r18.2.2.1.1, r18.2.2.1.2), (r18.2.2.2.1, r18.2.2.2.2)))) (r19.1, r19.2) aRounds).bind fun r20 =>
(laws_eqSpanS (r20.1.1, r20.1.2) (r4.1.1, r4.1.2)).bind fun r21 =>
 bif !r21 then
 some false
else 
 bif !(r20.2.1 == r4.2.1) then
 some false
else 
 bif !(r20.2.2 == r4.2.2) then
 some false
else 
(laws_heldSpanS (r16.1.1, r16.1.2) 1).bind fun r22 =>
 bif decide (r22 < 0) then
 some false
else 
 bif (r22 != r16.2) then
 some false
else 
 some true := Eq.trans (inf_call_eq (H := H) 13 (aP, (aSpans, aRounds))) (by kernel_rfl)
theorem fit : Fit Try.prog H := fit_of (exts := extsL) (tys := tysL) (cells := cellsL) (keys := keysL) rfl rfl rfl rfl (by kernel_rfl) (by kernel_rfl) ⟨⟨Try.func15, by kernel_rfl, by kernel_rfl⟩, ⟨Try.func206, by kernel_rfl, by kernel_rfl⟩, ⟨Try.func169, by kernel_rfl, by kernel_rfl⟩, ⟨Try.func128, by kernel_rfl, by kernel_rfl⟩, ⟨Try.func68, by kernel_rfl, by kernel_rfl⟩, ⟨Try.func14, by kernel_rfl, by kernel_rfl⟩, ⟨Try.func59, by kernel_rfl, by kernel_rfl⟩, ⟨Try.func74, by kernel_rfl, by kernel_rfl⟩, ⟨Try.func18, by kernel_rfl, by kernel_rfl⟩, ⟨Try.func209, by kernel_rfl, by kernel_rfl⟩, ⟨Try.func175, by kernel_rfl, by kernel_rfl⟩, ⟨Try.func135, by kernel_rfl, by kernel_rfl⟩, ⟨Try.func73, by kernel_rfl, by kernel_rfl⟩, ⟨Try.func17, by kernel_rfl, by kernel_rfl⟩, ⟨Try.func122, by kernel_rfl, by kernel_rfl⟩, ⟨Try.func61, by kernel_rfl, by kernel_rfl⟩, ⟨Try.func96, by kernel_rfl, by kernel_rfl⟩, ⟨Try.func171, by kernel_rfl, by kernel_rfl⟩, ⟨Try.func172, by kernel_rfl, by kernel_rfl⟩, ⟨Try.func196, by kernel_rfl, by kernel_rfl⟩, ⟨Try.func207, by kernel_rfl, by kernel_rfl⟩, ⟨Try.func173, by kernel_rfl, by kernel_rfl⟩, ⟨Try.func130, by kernel_rfl, by kernel_rfl⟩, ⟨Try.func70, by kernel_rfl, by kernel_rfl⟩, ⟨Try.func170, by kernel_rfl, by kernel_rfl⟩, ⟨Try.func129, by kernel_rfl, by kernel_rfl⟩, ⟨Try.func223, by kernel_rfl, by kernel_rfl⟩, ⟨Try.func195, by kernel_rfl, by kernel_rfl⟩, ⟨Try.func163, by kernel_rfl, by kernel_rfl⟩, ⟨Try.func120, by kernel_rfl, by kernel_rfl⟩, ⟨Try.func197, by kernel_rfl, by kernel_rfl⟩, ⟨Try.func224, by kernel_rfl, by kernel_rfl⟩, ⟨Try.func200, by kernel_rfl, by kernel_rfl⟩, ⟨Try.func201, by kernel_rfl, by kernel_rfl⟩, ⟨Try.func198, by kernel_rfl, by kernel_rfl⟩, ⟨Try.func199, by kernel_rfl, by kernel_rfl⟩, ⟨Try.func164, by kernel_rfl, by kernel_rfl⟩, ⟨Try.func165, by kernel_rfl, by kernel_rfl⟩, ⟨Try.func121, by kernel_rfl, by kernel_rfl⟩, ⟨Try.func66, by kernel_rfl, by kernel_rfl⟩, ⟨Try.func177, by kernel_rfl, by kernel_rfl⟩, ⟨Try.func178, by kernel_rfl, by kernel_rfl⟩, ⟨Try.func212, by kernel_rfl, by kernel_rfl⟩, ⟨Try.func143, by kernel_rfl, by kernel_rfl⟩, ⟨Try.func226, by kernel_rfl, by kernel_rfl⟩, ⟨Try.func213, by kernel_rfl, by kernel_rfl⟩, ⟨Try.func214, by kernel_rfl, by kernel_rfl⟩, ⟨Try.func141, by kernel_rfl, by kernel_rfl⟩, ⟨Try.func88, by kernel_rfl, by kernel_rfl⟩, ⟨Try.func182, by kernel_rfl, by kernel_rfl⟩, ⟨Try.func183, by kernel_rfl, by kernel_rfl⟩, ⟨Try.func140, by kernel_rfl, by kernel_rfl⟩, ⟨Try.func87, by kernel_rfl, by kernel_rfl⟩, ⟨Try.func181, by kernel_rfl, by kernel_rfl⟩, ⟨Try.func180, by kernel_rfl, by kernel_rfl⟩, ⟨Try.func211, by kernel_rfl, by kernel_rfl⟩, ⟨Try.func179, by kernel_rfl, by kernel_rfl⟩, ⟨Try.func139, by kernel_rfl, by kernel_rfl⟩, ⟨Try.func204, by kernel_rfl, by kernel_rfl⟩, ⟨Try.func203, by kernel_rfl, by kernel_rfl⟩, ⟨Try.func225, by kernel_rfl, by kernel_rfl⟩, ⟨Try.func202, by kernel_rfl, by kernel_rfl⟩, ⟨Try.func166, by kernel_rfl, by kernel_rfl⟩, ⟨Try.func123, by kernel_rfl, by kernel_rfl⟩, ⟨Try.func126, by kernel_rfl, by kernel_rfl⟩, ⟨Try.func227, by kernel_rfl, by kernel_rfl⟩, ⟨Try.func222, by kernel_rfl, by kernel_rfl⟩, ⟨Try.func228, by kernel_rfl, by kernel_rfl⟩, ⟨Try.func229, by kernel_rfl, by kernel_rfl⟩, ⟨Try.func230, by kernel_rfl, by kernel_rfl⟩, ⟨Try.func205, by kernel_rfl, by kernel_rfl⟩, ⟨Try.func167, by kernel_rfl, by kernel_rfl⟩, ⟨Try.func168, by kernel_rfl, by kernel_rfl⟩, ⟨Try.func124, by kernel_rfl, by kernel_rfl⟩, ⟨Try.func127, by kernel_rfl, by kernel_rfl⟩, ⟨Try.func67, by kernel_rfl, by kernel_rfl⟩, ⟨Try.func125, by kernel_rfl, by kernel_rfl⟩, ⟨Try.func63, by kernel_rfl, by kernel_rfl⟩, ⟨Try.func79, by kernel_rfl, by kernel_rfl⟩, ⟨Try.func21, by kernel_rfl, by kernel_rfl⟩, ⟨Try.func210, by kernel_rfl, by kernel_rfl⟩, ⟨Try.func176, by kernel_rfl, by kernel_rfl⟩, ⟨Try.func137, by kernel_rfl, by kernel_rfl⟩, ⟨Try.func78, by kernel_rfl, by kernel_rfl⟩, ⟨Try.func20, by kernel_rfl, by kernel_rfl⟩, ⟨Try.func48, by kernel_rfl, by kernel_rfl⟩, ⟨Try.func148, by kernel_rfl, by kernel_rfl⟩, ⟨Try.func103, by kernel_rfl, by kernel_rfl⟩, ⟨Try.func42, by kernel_rfl, by kernel_rfl⟩, ⟨Try.func64, by kernel_rfl, by kernel_rfl⟩, ⟨Try.func65, by kernel_rfl, by kernel_rfl⟩, ⟨Try.func13, by kernel_rfl, by kernel_rfl⟩, trivial⟩ ⟨add_of Try.func237 (by kernel_rfl) (by kernel_rfl) (by kernel_rfl) (by kernel_rfl), trivial⟩ (by kernel_rfl)
end Go.Proofs.Ytdfccojbamlkdaa.R
